/- Blobs, part thirteen: the plain law of the heap. Conditions: none. -/
import Derived.Test.YtahimopjohdkjaaK4
import Derived.Test.YtahimopjohdkjaaK2
import Derived.Test.YtahimopjohdkjaaK3
namespace Go.Proofs.Ytahimopjohdkjaa
open Go.Eng Go.RowKit Go.WideMaps

theorem cb_asymm : ∀ x y : List UInt8, Lib.compareBytes x y < 0 → ¬ Lib.compareBytes y x < 0
  | [], [] => by simp [Lib.compareBytes]
  | [], _ :: _ => by simp [Lib.compareBytes]
  | _ :: _, [] => by simp [Lib.compareBytes]
  | a :: x, b :: y => by
    have ih := cb_asymm x y
    simp only [Lib.compareBytes, UInt8.lt_iff_toNat_lt]
    repeat' split
    all_goals first | omega | exact ih
theorem cb_trans : ∀ x y z : List UInt8, ¬ Lib.compareBytes y x < 0 → ¬ Lib.compareBytes z y < 0 → ¬ Lib.compareBytes z x < 0
  | [], _, [] => by simp [Lib.compareBytes]
  | [], _, _ :: _ => by simp [Lib.compareBytes]
  | _ :: _, [], [] => by simp [Lib.compareBytes]
  | _ :: _, _ :: _, [] => by simp [Lib.compareBytes]
  | _ :: _, [], _ :: _ => by simp [Lib.compareBytes]
  | a :: x, b :: y, c :: z => by
    have ih := cb_trans x y z
    simp only [Lib.compareBytes, UInt8.lt_iff_toNat_lt]
    repeat' split
    all_goals first | omega | exact ih
/-- x stands not behind y. -/
def leM (x y : List Int) : Prop := ¬ cmpM y x < 0
theorem leM_of {x y : List Int} (h : cmpM x y < 0) : leM x y := cb_asymm _ _ h
theorem leM_trans {x y z : List Int} (h1 : leM x y) (h2 : leM y z) : leM x z := cb_trans _ _ _ h1 h2
abbrev at' (l : List (List Int)) (i : Nat) : List Int := l.getD i []
theorem swapL_at (l : List (List Int)) {i j : Nat} (hi : i < l.length) (hj : j < l.length) (k : Nat) : at' (swapL l i j) k = if k = j then at' l i else if k = i then at' l j else at' l k := by
  simp only [at', swapL, List.getD_eq_getElem?_getD, List.getElem?_set, List.length_set]
  repeat' split
  all_goals first | rfl | omega | simp_all
theorem swapL_perm {l : List (List Int)} {i j : Nat} (hi : i < l.length) (hj : j < l.length) : (swapL l i j).Perm l := by
  have := List.set_set_perm hi hj
  simp only [swapL, List.getD_eq_getElem?_getD, List.getElem?_eq_getElem hi, List.getElem?_eq_getElem hj, Option.getD_some]
  exact this
def hpN (n : Nat) (l : List (List Int)) : Prop := ∀ i, 0 < i → i < n → leM (at' l ((i - 1) / 2)) (at' l i)
/-! ## up -/
def upI (l : List (List Int)) (j : Nat) : Prop := (∀ i, 0 < i → i < l.length → i ≠ j → leM (at' l ((i - 1) / 2)) (at' l i)) ∧ ∀ c, 0 < c → c < l.length → (c - 1) / 2 = j → 0 < j → leM (at' l ((j - 1) / 2)) (at' l c)
theorem upM_hp (k : Nat) : ∀ l j, j < k → j < l.length → upI l j → hpN l.length (upM k l j) := by
  induction k with
  | zero => intro l j h; omega
  | succ k ih =>
    intro l j hk hj ⟨h1, h2⟩
    simp only [upM]
    split
    · rename_i h0; intro i a b; exact h1 i a b (by omega)
    · rename_i h0
      have hp : (j - 1) / 2 < j := by omega
      split
      · rename_i hlt
        have sw := swapL_at l (i := (j - 1) / 2) (j := j) (by omega) hj
        have hle := leM_of hlt
        have := ih (swapL l ((j - 1) / 2) j) ((j - 1) / 2) (by omega) (by rw [swapL_len]; omega) ⟨fun i a b c => ?_, fun c a b d e => ?_⟩
        · rwa [swapL_len] at this
        · rw [swapL_len] at b
          rw [sw, sw]
          by_cases e1 : i = j
          · subst e1
            rw [if_neg (by omega), if_pos rfl, if_pos rfl]; exact hle
          · rw [if_neg e1, if_neg c]
            by_cases e2 : (i - 1) / 2 = j
            · rw [if_pos e2]; exact h2 i a b e2 (by omega)
            · rw [if_neg e2]
              by_cases e3 : (i - 1) / 2 = (j - 1) / 2
              · rw [if_pos e3]; exact leM_trans hle (e3 ▸ h1 i a b e1)
              · rw [if_neg e3]; exact h1 i a b e1
        · rw [swapL_len] at b
          rw [sw, sw, if_neg (by omega), if_neg (by omega)]
          have hpp := h1 ((j - 1) / 2) (by omega) (by omega) (by omega)
          by_cases e1 : c = j
          · rw [if_pos e1]; exact hpp
          · rw [if_neg e1, if_neg (by omega)]
            exact leM_trans hpp (d ▸ h1 c a b e1)
      · rename_i hlt
        intro i a b
        by_cases e1 : i = j
        · subst e1; exact hlt
        · exact h1 i a b e1
theorem upM_perm (k : Nat) : ∀ l j, j < l.length → (upM k l j).Perm l := by
  induction k with
  | zero => intro l j _; exact .refl _
  | succ k ih =>
    intro l j hj
    simp only [upM]
    split
    · exact .refl _
    · split
      · exact (ih _ _ (by rw [swapL_len]; omega)).trans (swapL_perm (by omega) hj)
      · exact .refl _
/-! ## down -/
def dnI (n : Nat) (l : List (List Int)) (i : Nat) : Prop := (∀ k, 0 < k → k < n → (k - 1) / 2 ≠ i → leM (at' l ((k - 1) / 2)) (at' l k)) ∧ ∀ k, 0 < k → k < n → (k - 1) / 2 = i → 0 < i → leM (at' l ((i - 1) / 2)) (at' l k)
theorem dnJ_le {n : Nat} {l : List (List Int)} {i : Nat} (k : Nat) (h0 : 0 < k) (hk : k < n) (h : (k - 1) / 2 = i) : leM (at' l (dnJ n l i)) (at' l k) := by
  have hself : leM (at' l k) (at' l k) := fun h => cb_asymm _ _ h h
  have hk' : k = 2 * i + 1 ∨ k = 2 * i + 2 := by omega
  unfold dnJ
  split
  · rename_i h1
    rcases hk' with rfl | rfl
    · exact leM_of h1.2
    · exact hself
  · rename_i h1
    rcases hk' with rfl | rfl
    · exact hself
    · exact fun h2 => h1 ⟨hk, h2⟩
theorem dnM_hp (f : Nat) : ∀ n l i, n - i ≤ f → n ≤ l.length → dnI n l i → hpN n (dnM f n l i) := by
  induction f with
  | zero => intro n l i hf hn ⟨h1, _⟩ k a b; exact h1 k a b (by omega)
  | succ f ih =>
    intro n l i hf hn ⟨h1, h2⟩
    simp only [dnM]
    split
    · rename_i h0; intro k a b; exact h1 k a b (by omega)
    · rename_i h0
      have hJ := dnJ_lt (l := l) h0
      have hJp : (dnJ n l i - 1) / 2 = i := by unfold dnJ; split <;> omega
      have hch := fun k a b e => dnJ_le (n := n) (l := l) (i := i) k a b e
      generalize dnJ n l i = j at *
      split
      · rename_i hlt
        have sw := swapL_at l (i := i) (j := j) (by omega) (by omega)
        have hle := leM_of hlt
        refine ih n (swapL l i j) j (by omega) (by rw [swapL_len]; exact hn) ⟨fun k a b c => ?_, fun k a b d e => ?_⟩
        · rw [sw, sw]
          by_cases e1 : k = j
          · subst e1
            rw [if_neg (by omega), if_pos hJp, if_pos rfl]; exact hle
          · rw [if_neg e1, if_neg c]
            by_cases e2 : k = i
            · subst e2
              rw [if_neg (by omega), if_pos rfl]
              exact h2 j (by omega) hJ.1 hJp a
            · rw [if_neg e2]
              by_cases e3 : (k - 1) / 2 = i
              · rw [if_pos e3]; exact hch k a b e3
              · rw [if_neg e3]; exact h1 k a b e3
        · rw [sw, sw, if_neg (by omega), if_pos hJp, if_neg (by omega), if_neg (by omega)]
          exact d ▸ h1 k a b (by omega)
      · rename_i hlt
        intro k a b
        by_cases e3 : (k - 1) / 2 = i
        · rw [e3]; exact leM_trans hlt (hch k a b e3)
        · exact h1 k a b e3
theorem dnM_perm (f : Nat) : ∀ n l i, i < l.length → n ≤ l.length → (dnM f n l i).Perm l := by
  induction f with
  | zero => intro n l i _ _; exact .refl _
  | succ f ih =>
    intro n l i hi hn
    simp only [dnM]
    split
    · exact .refl _
    · rename_i h0
      have hJ := dnJ_lt (l := l) h0
      split
      · exact (ih _ _ _ (by rw [swapL_len]; omega) (by rw [swapL_len]; exact hn)).trans (swapL_perm hi (by omega))
      · exact .refl _
theorem dnM_at (f : Nat) : ∀ n l i m, n ≤ m → i < n → n ≤ l.length → at' (dnM f n l i) m = at' l m := by
  induction f with
  | zero => intro n l i m _ _ _; rfl
  | succ f ih =>
    intro n l i m hm hi hn
    simp only [dnM]
    split
    · rfl
    · rename_i h0
      have hJ := dnJ_lt (l := l) h0
      split
      · rw [ih _ _ _ _ hm hJ.1 (by rw [swapL_len]; exact hn), swapL_at l (by omega) (by omega), if_neg (by omega), if_neg (by omega)]
      · rfl
theorem hp_root {n : Nat} {l : List (List Int)} (h : hpN n l) (k : Nat) : k < n → leM (at' l 0) (at' l k) := by
  induction k using Nat.strongRecOn with
  | ind k ih =>
    intro hk
    rcases Nat.eq_zero_or_pos k with rfl | h0
    · exact fun h => cb_asymm _ _ h h
    · exact leM_trans (ih _ (by omega) (by omega)) (h k h0 hk)
/-! ## What the heap says -/
theorem push_hp {l : List (List Int)} {x : List Int} (h : hpN l.length l) : hpN (l.length + 1) (upM (l.length + 1) (l ++ [x]) l.length) := by
  have := upM_hp (l.length + 1) (l ++ [x]) l.length (by omega) (by simp) ⟨fun i a b c => ?_, fun c a b d e => ?_⟩
  · simpa using this
  · simp only [List.length_append, List.length_cons, List.length_nil] at b
    have := h i a (by omega)
    simp only [at', List.getD_eq_getElem?_getD] at this ⊢
    rwa [List.getElem?_append_left (by omega), List.getElem?_append_left (by omega)]
  · simp only [List.length_append, List.length_cons, List.length_nil] at b; omega
theorem pop_hp {l : List (List Int)} {n : Nat} (hn : l.length = n + 1) (h : hpN (n + 1) l) :
    hpN n ((popL l).take n) ∧ ((popL l).getD n [] :: (popL l).take n).Perm l ∧ ∀ x ∈ (popL l).take n, leM ((popL l).getD n []) x := by
  have hp : popL l = dnM n n (swapL l 0 n) 0 := by rw [popL, hn]; rfl
  have sw := swapL_at l (i := 0) (j := n) (by omega) (by omega)
  have hlen := popL_len l
  have hat : (popL l).getD n [] = at' l 0 := by
    rcases Nat.eq_zero_or_pos n with rfl | h0
    · rw [hp]; show at' (swapL l 0 0) 0 = _; rw [sw]; simp
    · rw [hp]; show at' (dnM n n (swapL l 0 n) 0) n = _
      rw [dnM_at n n _ 0 n (Nat.le_refl _) h0 (by rw [swapL_len]; omega), sw, if_pos rfl]
  have hperm : (popL l).Perm l := by rw [hp]; exact (dnM_perm _ _ _ _ (by rw [swapL_len]; omega) (by rw [swapL_len]; omega)).trans (swapL_perm (by omega) (by omega))
  have ep : popL l = (popL l).take n ++ [(popL l).getD n []] := by
    have h := (List.take_append_drop n (popL l)).symm
    have h2 : (popL l).drop n = [(popL l).getD n []] := by
      rw [List.getD_eq_getElem?_getD, List.getElem?_eq_getElem (by omega), Option.getD_some, List.drop_eq_getElem_cons (by omega), List.drop_of_length_le (by omega)]
    rwa [h2] at h
  have hperm2 : ((popL l).getD n [] :: (popL l).take n).Perm l := by
    refine (List.Perm.trans ?_ hperm)
    conv => rhs; rw [ep]
    exact (List.perm_append_singleton _ _).symm
  refine ⟨?_, hperm2, fun x hx => ?_⟩
  · have := dnM_hp n n (swapL l 0 n) 0 (by omega) (by rw [swapL_len]; omega) ⟨fun k a b c => ?_, fun k a b d e => by omega⟩
    · rw [← hp] at this
      intro i a b
      have := this i a b
      simp only [at', List.getD_eq_getElem?_getD] at this ⊢
      rwa [List.getElem?_take, if_pos (by omega), List.getElem?_take, if_pos (by omega)]
    · rw [sw, sw, if_neg (by omega), if_neg (by omega), if_neg (by omega), if_neg (by omega)]
      exact h k a (by omega)
  · rw [hat]
    have hm := hperm.subset (List.mem_of_mem_take hx)
    obtain ⟨k, hk, rfl⟩ := List.mem_iff_getElem.1 hm
    have := hp_root h k (by omega)
    simp only [at', List.getD_eq_getElem?_getD, List.getElem?_eq_getElem hk, Option.getD_some] at this
    simp only [at', List.getD_eq_getElem?_getD]
    exact this
end Go.Proofs.Ytahimopjohdkjaa
/- Blobs, part fourteen: slices.Grow, IDs. Conditions: not too many. -/
namespace Go.Proofs.Ytahimopjohdkjaa
open Go.Eng Go.RowKit Go.WideMaps

theorem kM_ids (l : List Kp) : (kM l).map (·.1) = l.map (·.id) := by
  induction l with
  | nil => rfl
  | cons e l ih => simp only [kM, List.map_cons, ih]
section
variable {b : World} {F : List SP}
theorem Grow_S {n : Nat} (hn : n ≤ 1000000) : SC Try.prog n_slices_Grow_sl_api_ID_api_ID [.slice none 0 0, .int .i64 n] b F (fun v F' => ∃ A c, v = .slice A 0 c ∧ F' = rN A c 0 [] :: F) := by
  refine enterS F_slices_Grow_sl_api_ID_api_ID rfl rfl rfl ?_
  (refine sw_seq ?_; refine sw_region ?_; refine so_1 rfl ?_; refine so_nil ?_; refine sn_then ?_; (iterate 2 refine sw_seq ?_); refine sw_region ?_; (iterate 2 refine so_1 rfl ?_); refine so_nil ?_; refine sn_then ?_; refine sw_cond_f rfl ?_; refine sw_skip ?_; refine sn_then ?_; (iterate 2 refine sw_seq ?_); refine sw_region ?_; (iterate 5 refine so_1 rfl ?_); (iterate 2 refine so_2 rfl (by (unfold I64; omega)) ?_); refine so_1 rfl ?_; refine so_nil ?_; refine sn_then ?_; refine sw_seq ?_; refine sw_region ?_; (iterate 2 refine so_1 rfl ?_); refine so_nil ?_; refine sn_then ?_)
  refine sw_if rfl (fun h => ?_) (fun h => ?_)
  · (refine sw_region ?_; (iterate 3 refine so_1 rfl ?_); refine so_2 rfl (by omega) ?_; refine so_1 rfl ?_)
    refine so_know 21 (.int .i64 n) rfl (by first | rfl | (congr 1; omega)) ?_
    refine so_appZ (sz := 32) rfl rfl rfl rfl rfl rfl rfl rfl rfl (by omega) (by omega) fun gg c zs => ?_
    ((iterate 2 refine so_1 rfl ?_); refine so_2 rfl (by omega) ?_; refine so_1 rfl ?_; refine so_nil ?_; refine sn_then ?_; refine sw_seq ?_; refine sw_region ?_; (iterate 2 refine so_1 rfl ?_); refine so_nil ?_; refine sn_then ?_; refine sw_ret ?_)
    refine sn_ret rfl (.tmp rfl .nil) (ent_row_take (j := 0) (by omega) 0 rfl rfl) ?_
    exact ⟨_, _, rfl, rfl⟩
  · (refine sw_skip ?_; refine sn_then ?_; refine sw_seq ?_; refine sw_region ?_; (iterate 2 refine so_1 rfl ?_); refine so_nil ?_; refine sn_then ?_; refine sw_ret ?_)
    refine sn_ret rfl (.tmp rfl .nil) ((ent_row_nil t_api_ID 32 rfl).trans (ent_keep 1 [0] rfl rfl)) ?_
    exact ⟨none, 0, rfl, rfl⟩
variable {w r u : Int} {gs gm : Nat} {l : List Kp}
set_option maxHeartbeats 1000000 in
theorem IDs_S (hid : ∀ e ∈ l, idOk e.id) (hn : l.length ≤ 100000) : SC Try.prog n_p_blob_Store_IDs [.pointer (some ⟨gs, 0, none⟩)] b (stB gs gm w r u l F)
    (fun v F' => ∃ A c L, v = .slice A L.length c ∧ L.Pairwise leM ∧ L.Perm (l.map (·.id)) ∧ F' = rN A c L.length L :: stB gs gm w r u l F) := by
  refine enterS F_p_blob_Store_IDs rfl rfl rfl ?_
  (refine sw_seq ?_; refine sw_region ?_; refine so_1 rfl ?_; refine so_nil ?_; refine sn_then ?_; (iterate 2 refine sw_seq ?_); refine sw_region ?_; refine so_1 rfl ?_)
  refine so_callE rfl rfl rfl (none_S) ?_
  (refine so_nil ?_; refine sn_then ?_; refine sw_cond_f rfl ?_; refine sw_skip ?_; refine sn_then ?_; refine sw_seq ?_; refine sw_region ?_)
  refine so_lit0 rfl rfl rfl rfl rfl fun g0 => ?_
  skip
  refine so_box rfl rfl rfl rfl rfl fun gh => ?_
  (refine so_1 rfl ?_; refine so_nil ?_; refine sn_then ?_; (iterate 2 refine sw_seq ?_); refine sw_region ?_; (iterate 3 refine so_1 rfl ?_); refine so_l 2 rfl rfl rfl ?_)
  refine so_range 3 rfl rfl rfl rfl rfl (fun _ => rfl) rfl fun gi => ?_
  (refine so_nil ?_; refine sn_then ?_; refine sw_block ?_)
  refine sw_loop (S := List (List Int) × Nat × Option Addr × Nat × List (List Int × Value) × Option (List Int × Value))
    (fun s => [(0, .pointer (some ⟨gs, 0, none⟩)), (3, .pointer (some ⟨gh, 0, none⟩)), (14, .pointer (some ⟨gi, 0, none⟩))])
    (fun s => pt gh t_blob_digests [.slice s.2.2.1 s.2.1 s.2.2.2.1] :: rN s.2.2.1 s.2.2.2.1 s.2.1 s.1 :: mr gm gi (fun a : List Int => .agg ⟨a.map (Value.int .u8)⟩) idOk (kM l) s.2.2.2.2.1 s.2.2.2.2.2 :: pt gs t_blob_Store (stC w r u gm) :: all (kF l) :: F)
    (fun s => s.1.length = s.2.1 ∧ hpN s.2.1 s.1 ∧ (s.1 ++ s.2.2.2.2.1.map (·.1)).Perm (l.map (·.id))) (fun s => s.2.2.2.2.1.length) ([], 0, some ⟨g0, 0, none⟩, 0, kM l, none) ⟨rfl, rfl, rfl, trivial⟩ ?_ ?_ ?_
  · exact (ent_keep 4 [0, 1, 3, 2] rfl rfl).trans (ent_blk_row (n := 0) (sz := 32) rfl (by rfl) (by omega) 1 rfl rfl)
  · exact ⟨rfl, fun i _ hi => absurd hi (Nat.not_lt_zero i), by rw [kM_ids]; exact .refl _⟩
  rintro ⟨h, n, A, c, R, cur⟩ ⟨i0, i1, i2⟩
  dsimp only at i0 i1 i2 ⊢
  have hlen : n + R.length = l.length := by have := i2.length_eq; simpa [i0] using this
  have h32 : ∀ a, a ∈ h ∨ a ∈ R.map (·.1) → idOk a := fun a ha => by
    have := i2.subset (List.mem_append.2 ha)
    obtain ⟨e, he, rfl⟩ := List.mem_map.1 this
    exact hid e he
  (refine sw_seq ?_; refine sw_region ?_)
  refine so_next 2 rfl rfl rfl rfl (fun _ _ _ => rfl) rfl (fun hR => ?_) (fun R1 y R2 hR => ?_)
  · subst hR
    (refine so_1 rfl ?_; refine so_nil ?_; refine sn_then ?_; refine sw_seq ?_; refine sw_cond_f rfl ?_; refine sw_exit ?_; refine sn_then_exit ?_; refine sn_loop_exit ?_; refine sn_block_exit ?_; refine sn_then ?_; refine sw_seq ?_; refine sw_region ?_; (iterate 2 refine so_1 rfl ?_); refine so_l 0 rfl rfl rfl ?_)
    refine so_callE rfl rfl rfl (dLenN_S) ?_
    skip
    refine so_call rfl rfl rfl (Grow_S (by omega)) ?_
    rintro _ _ ⟨Ao, co, rfl, rfl⟩
    (refine so_1 rfl ?_; refine so_nil ?_; refine sn_then ?_; refine sw_seq ?_; refine sw_block ?_)
    refine sw_loop (S := List (List Int) × Nat × List (List Int) × Nat × Option Addr × Nat)
      (fun s => [(3, .pointer (some ⟨gh, 0, none⟩)), (5, .slice s.2.2.2.2.1 s.2.2.2.1 s.2.2.2.2.2)])
      (fun s => pt gh t_blob_digests [.slice A s.2.1 c] :: rN A c s.2.1 s.1 :: rN s.2.2.2.2.1 s.2.2.2.2.2 s.2.2.2.1 s.2.2.1 :: stB gs gm w r u l F)
      (fun s => s.1.length = s.2.1 ∧ s.2.2.1.length = s.2.2.2.1 ∧ hpN s.2.1 s.1 ∧ (s.2.2.1 ++ s.1).Perm (l.map (·.id)) ∧ s.2.2.1.Pairwise leM ∧ ∀ x ∈ s.2.2.1, ∀ y ∈ s.1, leM x y) (fun s => s.2.1) (h, n, [], 0, Ao, co) ⟨rfl, rfl, trivial⟩ ?_ ?_ ?_
    · exact ((ent_keep 5 [1, 2, 0, 4, 3] rfl rfl).trans (ent_mr 4 rfl rfl))
    · exact ⟨i0, rfl, i1, by simpa using i2, .nil, fun x hx => by simp at hx⟩
    rintro ⟨h2, n2, out, no, Ao2, co2⟩ ⟨j0, j00, j1, j2, j3, j4⟩
    dsimp only at j0 j00 j1 j2 j3 j4 ⊢
    have hlen2 : no + n2 = l.length := by have := j2.length_eq; simpa [j0, j00] using this
    have h32' : ∀ a, a ∈ out ∨ a ∈ h2 → idOk a := fun a ha => by
      have := j2.subset (List.mem_append.2 ha)
      obtain ⟨e, he, rfl⟩ := List.mem_map.1 this
      exact hid e he
    ((iterate 2 refine sw_seq ?_); refine sw_region ?_; (iterate 2 refine so_1 rfl ?_); refine so_l 0 rfl rfl rfl ?_)
    refine so_callE rfl rfl rfl (dLenN_S) ?_
    (refine so_1 rfl ?_; refine so_nil ?_; refine sn_then ?_)
    refine sw_if rfl (fun h0 => ?_) (fun h0 => ?_)
    · obtain ⟨m, rfl⟩ : ∃ m, n2 = m + 1 := ⟨n2 - 1, by omega⟩
      obtain ⟨q1, q2, q3⟩ := pop_hp j0 j1
      (refine sw_skip ?_; refine sn_then ?_; refine sw_block ?_; refine sw_region ?_; (iterate 3 refine so_1 rfl ?_))
      refine so_call rfl rfl rfl (hPop_S (fun a ha => (h32' a (.inr ha)).1) j0 (by omega)) ?_
      rintro _ _ ⟨rfl, rfl⟩
      have hx : ((popL h2).getD m []).length = 32 := (h32' _ (.inr (q2.subset List.mem_cons_self))).1
      have hl2 := popL_len h2
      generalize (popL h2).getD m [] = x at *
      have hl3 : ((popL h2).take m).length = m := by rw [List.length_take]; omega
      generalize (popL h2).take m = h3 at *
      skip
      refine so_as rfl rfl rfl rfl rfl rfl ?_
      refine so_lit1 rfl rfl rfl rfl rfl rfl rfl (by rw [u8s_len, hx]; rfl) (by decide) fun gl => ?_
      refine so_append 3 rfl rfl rfl rfl rfl rfl rfl rfl rfl (m := 1) (news := u8s x) (fun w H => (H.blk (k := 0) rfl).sl (by rw [u8s_len, hx]) (by decide)) (u8s_one _) (by omega) (fun _ => rfl) fun v8 => ?_
      rw [idsC_app]
      refine so_fact (fun w H => (H.oat (k := 3) rfl).form) ?_
      rintro ⟨A7, c7, rfl, _, _, _⟩
      (refine so_1 rfl ?_; refine so_nil ?_; refine sn_block ?_)
      refine sn_round (h3, m, out ++ [x], no + 1, A7, c7) ⟨rfl, rfl, trivial⟩ (ent_keep 4 [1, 2, 3] rfl rfl) ⟨hl3, by simp; omega, q1, ?_, ?_, ?_⟩ (by dsimp only; omega)
      · dsimp only
        rw [List.append_assoc]
        exact (List.Perm.append_left out q2).trans j2
      · refine List.pairwise_append.2 ⟨j3, by simp, fun a ha z hz => ?_⟩
        obtain rfl : z = x := by simpa using hz
        exact j4 a ha z (q2.subset List.mem_cons_self)
      · intro a ha z hz
        rcases List.mem_append.1 ha with ha | ha
        · exact j4 a ha z (q2.subset (List.mem_cons_of_mem _ hz))
        · obtain rfl : a = x := by simpa using ha
          exact q3 z hz
    · (refine sw_exit ?_; refine sn_then_exit ?_; refine sn_loop_exit ?_; refine sn_block_exit ?_; refine sn_then ?_; refine sw_seq ?_; refine sw_region ?_; (iterate 2 refine so_1 rfl ?_); refine so_nil ?_; refine sn_then ?_; refine sw_ret ?_)
      obtain rfl : h2 = [] := List.eq_nil_of_length_eq_zero (by omega)
      subst j00
      refine sn_ret rfl (.tmp rfl .nil) (ent_keep 3 [2] rfl rfl) ?_
      exact ⟨Ao2, co2, out, rfl, j3, by simpa using j2, rfl⟩
  · subst hR
    have hy := h32 y.1 (.inr (by simp))
    have hl3 : n + (R1.length + (R2.length + 1)) = l.length := by simpa using hlen
    (refine so_1 rfl ?_; refine so_nil ?_; refine sn_then ?_; refine sw_seq ?_; refine sw_cond_t rfl ?_; refine sw_skip ?_; refine sn_then ?_; refine sw_block ?_; refine sw_seq ?_; refine sw_region ?_)
    refine so_entry 2 rfl rfl rfl rfl rfl ?_
    (refine so_1 rfl ?_)
    refine so_new rfl rfl rfl rfl rfl fun g4 => ?_
    refine so_stW 0 rfl rfl rfl rfl rfl rfl rfl (by rw [u8s_len, hy.1]; rfl) (u8s_one _) (by simp [hy.1]) ?_
    (refine so_nil ?_; refine sn_then ?_; refine sw_region ?_; (iterate 2 refine so_1 rfl ?_))
    refine so_ldA 0 rfl rfl rfl rfl rfl rfl (segID hy.1) rfl ?_
    (refine so_1 rfl ?_)
    refine so_call rfl rfl rfl ((hPush_S (x := y.1) (fun a ha => (h32 a (.inl ha)).1) i0 hy.1 (by omega)).ent (ent_keep 3 [1, 2] rfl rfl)) ?_
    rintro _ _ ⟨A', c', rfl⟩
    (refine so_nil ?_; refine sn_block ?_)
    subst i0
    refine sn_round (upM (h.length + 1) (h ++ [y.1]) h.length, h.length + 1, A', c', R1 ++ R2, some y) ⟨rfl, rfl, rfl, trivial⟩ (Ent.refl _) ⟨by rw [upM_len]; simp, push_hp i1, ?_⟩ (by simp)
    refine (List.Perm.append_right _ (upM_perm _ _ _ (by simp))).trans (List.Perm.trans ?_ i2)
    simp only [List.append_assoc, List.map_append, List.map_cons]
    refine List.Perm.append_left h ?_
    exact (List.perm_middle (l₁ := R1.map (·.1)) (a := y.1)).symm
end
end Go.Proofs.Ytahimopjohdkjaa
/- Blobs, part fifteen: stores that nobody made. Conditions: none. -/
namespace Go.Proofs.Ytahimopjohdkjaa
open Go.Eng Go.RowKit Go.WideMaps

section
variable {b : World} {F : List SP} {p : Value} {id : List Int} (hn : ∀ A : List SP, SC Try.prog n_p_blob_Store_none [p] b (A ++ F) (fun v F' => v = .bool true ∧ F' = A ++ F))
include hn
theorem NWidth_S : SC Try.prog n_p_blob_Store_Width [p] b F (fun v F' => v = .int .i64 0 ∧ F' = F) := by
  refine enterS F_p_blob_Store_Width rfl rfl rfl ?_
  (refine sw_seq ?_; refine sw_region ?_; refine so_1 rfl ?_; refine so_nil ?_; refine sn_then ?_; (iterate 2 refine sw_seq ?_); refine sw_region ?_; refine so_1 rfl ?_)
  refine so_callE rfl rfl rfl (hn []) ?_
  (refine so_nil ?_; refine sn_then ?_; refine sw_cond_t rfl ?_; refine sw_seq ?_; refine sw_region ?_; refine so_1 rfl ?_; refine so_nil ?_; refine sn_then ?_; refine sw_ret ?_; refine sn_then_ret ?_)
  refine sn_ret rfl (.tmp rfl .nil) (Ent.refl _) ?_
  exact ⟨rfl, rfl⟩
theorem NRoom_S : SC Try.prog n_p_blob_Store_Room [p] b F (fun v F' => v = .int .i64 0 ∧ F' = F) := by
  refine enterS F_p_blob_Store_Room rfl rfl rfl ?_
  (refine sw_seq ?_; refine sw_region ?_; refine so_1 rfl ?_; refine so_nil ?_; refine sn_then ?_; (iterate 2 refine sw_seq ?_); refine sw_region ?_; refine so_1 rfl ?_)
  refine so_callE rfl rfl rfl (hn []) ?_
  (refine so_nil ?_; refine sn_then ?_; refine sw_cond_t rfl ?_; refine sw_seq ?_; refine sw_region ?_; refine so_1 rfl ?_; refine so_nil ?_; refine sn_then ?_; refine sw_ret ?_; refine sn_then_ret ?_)
  refine sn_ret rfl (.tmp rfl .nil) (Ent.refl _) ?_
  exact ⟨rfl, rfl⟩
theorem NUsed_S : SC Try.prog n_p_blob_Store_Used [p] b F (fun v F' => v = .int .i64 0 ∧ F' = F) := by
  refine enterS F_p_blob_Store_Used rfl rfl rfl ?_
  (refine sw_seq ?_; refine sw_region ?_; refine so_1 rfl ?_; refine so_nil ?_; refine sn_then ?_; (iterate 2 refine sw_seq ?_); refine sw_region ?_; refine so_1 rfl ?_)
  refine so_callE rfl rfl rfl (hn []) ?_
  (refine so_nil ?_; refine sn_then ?_; refine sw_cond_t rfl ?_; refine sw_seq ?_; refine sw_region ?_; refine so_1 rfl ?_; refine so_nil ?_; refine sn_then ?_; refine sw_ret ?_; refine sn_then_ret ?_)
  refine sn_ret rfl (.tmp rfl .nil) (Ent.refl _) ?_
  exact ⟨rfl, rfl⟩
theorem NIDs_S : SC Try.prog n_p_blob_Store_IDs [p] b F (fun v F' => v = .slice none 0 0 ∧ F' = F) := by
  refine enterS F_p_blob_Store_IDs rfl rfl rfl ?_
  (refine sw_seq ?_; refine sw_region ?_; refine so_1 rfl ?_; refine so_nil ?_; refine sn_then ?_; (iterate 2 refine sw_seq ?_); refine sw_region ?_; refine so_1 rfl ?_)
  refine so_callE rfl rfl rfl (hn []) ?_
  (refine so_nil ?_; refine sn_then ?_; refine sw_cond_t rfl ?_; refine sw_seq ?_; refine sw_region ?_; refine so_1 rfl ?_; refine so_nil ?_; refine sn_then ?_; refine sw_ret ?_; refine sn_then_ret ?_)
  refine sn_ret rfl (.tmp rfl .nil) (Ent.refl _) ?_
  exact ⟨rfl, rfl⟩
theorem NGet_S : SC Try.prog n_p_blob_Store_Get [p, idV id] b F (fun v F' => v = .tuple ⟨[.slice none 0 0, .bool false]⟩ ∧ F' = F) := by
  refine enterS F_p_blob_Store_Get rfl rfl rfl ?_
  (refine sw_seq ?_; refine sw_region ?_)
  refine so_box rfl rfl rfl rfl rfl fun gi => ?_
  ((iterate 2 refine so_1 rfl ?_); refine so_nil ?_; refine sn_then ?_; (iterate 2 refine sw_seq ?_); refine sw_region ?_; refine so_1 rfl ?_)
  refine so_callE rfl rfl rfl (hn [_]) ?_
  (refine so_nil ?_; refine sn_then ?_; refine sw_cond_t rfl ?_; refine sw_seq ?_; refine sw_region ?_; (iterate 2 refine so_1 rfl ?_); refine so_nil ?_; refine sn_then ?_; refine sw_ret ?_; refine sn_then_ret ?_)
  refine sn_ret rfl (.tmp rfl (.tmp rfl .nil)) (ent_keep 1 [] rfl rfl) ?_
  exact ⟨rfl, rfl⟩
theorem NSize_S (hid : id.length = 32) : SC Try.prog n_p_blob_Store_Size [p, idV id] b F (fun v F' => v = .tuple ⟨[.int .i64 0, .bool false]⟩ ∧ F' = F) := by
  refine enterS F_p_blob_Store_Size rfl rfl rfl ?_
  (refine sw_seq ?_; refine sw_region ?_)
  refine so_box rfl rfl rfl rfl rfl fun gi => ?_
  ((iterate 2 refine so_1 rfl ?_); refine so_nil ?_; refine sn_then ?_; refine sw_seq ?_; refine sw_region ?_; refine so_1 rfl ?_)
  refine so_ldA 0 rfl rfl rfl rfl rfl rfl (segID hid) rfl ?_
  refine so_callE rfl rfl rfl (NGet_S (F := pt gi t_api_ID (u8s id) :: F) (fun A => (hn (A ++ [pt gi t_api_ID (u8s id)])).conv (by simp; exact Ent.refl _) (by rintro v _ ⟨rfl, rfl⟩; exact ⟨_, ⟨rfl, rfl⟩, by simp; exact Ent.refl _⟩))) ?_
  ((iterate 5 refine so_1 rfl ?_); refine so_nil ?_; refine sn_then ?_; refine sw_seq ?_; refine sw_region ?_; (iterate 5 refine so_1 rfl ?_); refine so_nil ?_; refine sn_then ?_; refine sw_ret ?_)
  refine sn_ret rfl (.tmp rfl (.tmp rfl .nil)) (ent_keep 1 [] rfl rfl) ?_
  exact ⟨rfl, rfl⟩
theorem NDrop_S (hid : id.length = 32) : SC Try.prog n_p_blob_Store_Drop [p, idV id] b F (fun v F' => v = .bool false ∧ F' = F) := by
  refine enterS F_p_blob_Store_Drop rfl rfl rfl ?_
  (refine sw_seq ?_; refine sw_region ?_)
  refine so_box rfl rfl rfl rfl rfl fun gi => ?_
  (refine so_1 rfl ?_; refine so_nil ?_; refine sn_then ?_; refine sw_seq ?_; refine sw_region ?_; refine so_1 rfl ?_)
  refine so_ldA 0 rfl rfl rfl rfl rfl rfl (segID hid) rfl ?_
  refine so_callE rfl rfl rfl (NSize_S (F := pt gi t_api_ID (u8s id) :: F) (fun A => (hn (A ++ [pt gi t_api_ID (u8s id)])).conv (by simp; exact Ent.refl _) (by rintro v _ ⟨rfl, rfl⟩; exact ⟨_, ⟨rfl, rfl⟩, by simp; exact Ent.refl _⟩)) hid) ?_
  ((iterate 5 refine so_1 rfl ?_); refine so_nil ?_; refine sn_then ?_; (iterate 2 refine sw_seq ?_); refine sw_region ?_; refine so_1 rfl ?_; refine so_nil ?_; refine sn_then ?_; refine sw_cond_f rfl ?_; refine sw_skip ?_; refine sn_then ?_; refine sw_seq ?_; refine sw_region ?_; (iterate 2 refine so_1 rfl ?_); refine so_nil ?_; refine sn_then ?_; refine sw_ret ?_)
  refine sn_ret rfl (.tmp rfl .nil) (ent_keep 1 [] rfl rfl) ?_
  exact ⟨rfl, rfl⟩
end
section
variable {b : World} {F : List SP} {q A0 : Option Addr} {n0 c0 : Nat} {id : List Int} (hn : ∀ A : List SP, SC Try.prog n_p_blob_Store_none [.pointer q] b (A ++ F) (fun v F' => v = .bool true ∧ F' = A ++ F))
include hn
theorem NPut_S : SC Try.prog n_p_blob_Store_Put [.pointer q, idV id, .slice A0 n0 c0] b F (fun v F' => v = .tuple ⟨[.bool false, .int .i64 1]⟩ ∧ F' = F) := by
  refine enterS F_p_blob_Store_Put rfl rfl rfl ?_
  (refine sw_seq ?_; refine sw_region ?_)
  refine so_box rfl rfl rfl rfl rfl fun g3 => ?_
  refine so_box rfl rfl rfl rfl rfl fun g4 => ?_
  refine so_box rfl rfl rfl rfl rfl fun g5 => ?_
  ((iterate 2 refine so_1 rfl ?_); refine so_nil ?_; refine sn_then ?_; (iterate 2 refine sw_seq ?_); refine sw_region ?_; refine so_l 2 rfl rfl rfl ?_)
  refine so_callE rfl rfl rfl (hn [_, _, _]) ?_
  (refine so_nil ?_; refine sn_then ?_; refine sw_cond_t rfl ?_; refine sw_seq ?_; refine sw_region ?_; (iterate 2 refine so_1 rfl ?_); refine so_nil ?_; refine sn_then ?_; refine sw_ret ?_; refine sn_then_ret ?_)
  refine sn_ret rfl (.tmp rfl (.tmp rfl .nil)) (ent_keep 3 [] rfl rfl) ?_
  exact ⟨rfl, rfl⟩
end
end Go.Proofs.Ytahimopjohdkjaa
/- Blobs, part sixteen: the chapter's examples. Conditions: none. -/
namespace Go.Proofs.Ytahimopjohdkjaa
open Go.Eng Go.RowKit Go.WideMaps
set_option maxRecDepth 100000

section
variable {b : World} {F : List SP} {gs gm : Nat} {w r u u' : Int} {l : List Kp} {s : ByteArray} {is : Bool} {e : Int} {Pl : List Kp → Prop}
theorem puts_S (hsz : s.size ≤ 1000000) (hw : 1 ≤ w ∧ w ≤ 32)
    (hput : ∀ (F : List SP) (vb : Value), (∀ w, Sat b F w → VL (Value.int .u8) w vb (strI s)) → SC Try.prog n_p_blob_Store_Put [.pointer (some ⟨gs, 0, none⟩), idV (cutR (sumM (strI s)) w), vb] b (stB gs gm w r u l F)
      (fun v F' => ∃ l', Pl l' ∧ v = .tuple ⟨[.bool is, .int .i64 e]⟩ ∧ F' = stB gs gm w r u' l' F)) :
    SC Try.prog n_entrepotlaw08_puts [.pointer (some ⟨gs, 0, none⟩), .string s, .bool is, .int .i64 e] b (stB gs gm w r u l F) (fun v F' => ∃ l', Pl l' ∧ v = .bool true ∧ F' = stB gs gm w r u' l' F) := by
  have hl := strI_length s
  have hcl := cutR_len (sumM (strI s)) w (sumM_len _)
  have hE : cutE w = 0 := by rw [cutE, if_neg (by omega)]
  refine enterS F_entrepotlaw08_puts rfl rfl rfl ?_
  (refine sw_seq ?_; refine sw_region ?_; refine so_1 rfl ?_; refine so_nil ?_; refine sn_then ?_; refine sw_seq ?_; refine sw_region ?_; refine so_1 rfl ?_)
  refine so_s2v rfl rfl rfl rfl rfl rfl rfl rfl (by omega) fun g1 c cs hv => ?_
  (refine so_1 rfl ?_)
  refine so_callE rfl rfl rfl (Width_S.at (ent_keep 4 [1, 2, 3, 0] rfl rfl) (ent_keep 4 [3, 0, 1, 2] rfl rfl)) ?_
  skip
  refine so_callE rfl rfl rfl (Of_S (by omega) (hv _)) ?_
  rw [hE]
  generalize cutR (sumM (strI s)) w = id at *
  ((iterate 3 refine so_1 rfl ?_))
  refine so_new rfl rfl rfl rfl rfl fun g9 => ?_
  refine so_stW 0 rfl rfl rfl rfl rfl rfl rfl (by rw [u8s_len, hcl]; rfl) (u8s_one _) (by simp [hcl]) ?_
  (refine so_1 rfl ?_; refine so_nil ?_; refine sn_then ?_; refine sw_seq ?_; refine sw_region ?_; refine so_1 rfl ?_)
  refine so_ldA 0 rfl rfl rfl rfl rfl rfl (segID hcl) rfl ?_
  (refine so_1 rfl ?_)
  refine so_s2v rfl rfl rfl rfl rfl rfl rfl rfl (by omega) fun g2 c2 cs2 hv2 => ?_
  refine so_call rfl rfl rfl ((hput _ _ (hv2 _)).ent (ent_keep 6 [3, 4, 5, 0, 1, 2] rfl rfl)) ?_
  rintro _ _ ⟨l', hP, rfl, rfl⟩
  ((iterate 5 refine so_1 rfl ?_); refine so_nil ?_; refine sn_then ?_; refine sw_seq ?_; refine sw_region ?_; (iterate 8 refine so_1 rfl ?_))
  refine so_know 36 (.bool true) rfl (by cases is <;> rfl) ?_
  ((iterate 5 refine so_1 rfl ?_); refine so_nil ?_; refine sn_then ?_; refine sw_ret ?_)
  refine sn_ret rfl (.tmp rfl .nil) (ent_keep 6 [0, 1, 2] rfl rfl) ?_
  exact ⟨l', hP, by simp [tupl], rfl⟩
end
def sABC : ByteArray := ⟨#[97, 98, 99]⟩
def sDEFG : ByteArray := ⟨#[100, 101, 102, 103]⟩
theorem strI_bw (s : ByteArray) : byteW (strI s) := by
  intro c hc
  obtain ⟨x, _, rfl⟩ := List.mem_map.1 hc
  have := x.toNat_lt
  omega
theorem idOk_cut (xs : List Int) (w : Int) : idOk (cutR (sumM xs) w) := idOk_of (cutR_len _ _ (sumM_len _)) (cutR_byte (sumM_byte _) w)
theorem cutR_32 {l : List Int} (h : l.length = 32) : cutR l 32 = l := by
  rw [cutR, if_neg (by omega), cutM]
  simp [← h]
theorem sum_neq : cutR (sumM (strI sABC)) 32 ≠ cutR (sumM (strI sDEFG)) 32 := by decide +kernel
section
variable {b : World} {F : List SP}
theorem putsA1 {F : List SP} {gs gm : Nat} : SC Try.prog n_entrepotlaw08_puts [.pointer (some ⟨gs, 0, none⟩), .string sABC, .bool true, .int .i64 0] b (stB gs gm 32 5 0 [] F) (fun v F' => ∃ l', (∃ g v1, l' = [⟨cutR (sumM (strI sABC)) 32, strI sABC, g, v1⟩]) ∧ v = .bool true ∧ F' = stB gs gm 32 5 3 l' F) := by
  have hne := sum_neq
  have hi1 := idOk_cut (strI sABC) 32
  have hi2 := idOk_cut (strI sDEFG) 32
  have hlA : (strI sABC).length = 3 := rfl
  have hlD : (strI sDEFG).length = 4 := rfl
  refine puts_S (by decide) (by omega) fun F vb hv => (Put_none hv (by decide) hi1 rfl (by omega)).mono ?_
  intro v F' h
  have e0 : putE0 (cutR (sumM (strI sABC)) 32) (strI sABC) 32 5 0 = 0 := by
    rw [putE0, if_neg (by rw [hlA]; omega), if_pos rfl, if_neg (by rw [hlA]; omega)]
  rw [if_pos e0] at h
  obtain ⟨rfl, g, v1, rfl⟩ := h
  exact ⟨_, ⟨g, v1, rfl⟩, rfl, by rw [hlA]; rfl⟩
theorem putsA2 {F : List SP} {gs gm g : Nat} {v1 : Value} : SC Try.prog n_entrepotlaw08_puts [.pointer (some ⟨gs, 0, none⟩), .string sABC, .bool false, .int .i64 0] b (stB gs gm 32 5 3 [⟨cutR (sumM (strI sABC)) 32, strI sABC, g, v1⟩] F) (fun v F' => v = .bool true ∧ F' = stB gs gm 32 5 3 [⟨cutR (sumM (strI sABC)) 32, strI sABC, g, v1⟩] F) := by
  have hne := sum_neq
  have hi1 := idOk_cut (strI sABC) 32
  have hi2 := idOk_cut (strI sDEFG) 32
  have hlA : (strI sABC).length = 3 := rfl
  have hlD : (strI sDEFG).length = 4 := rfl
  refine (puts_S (Pl := fun l' => l' = [⟨cutR (sumM (strI sABC)) 32, strI sABC, g, v1⟩]) (u' := 3) (by decide) (by omega) fun F vb hv => (Put_some hv (by decide) hi1 (by rw [findK, if_pos rfl]) (strI_bw _) (strI_bw _)).mono ?_).mono ?_
  · rintro v F' ⟨rfl, rfl⟩
    have e0 : putE1 (cutR (sumM (strI sABC)) 32) (strI sABC) ⟨cutR (sumM (strI sABC)) 32, strI sABC, g, v1⟩ 32 = 0 := by
      rw [putE1, if_neg (by rw [hlA]; omega), if_pos rfl, if_pos rfl]
    rw [e0]
    exact ⟨_, rfl, rfl, rfl⟩
  · rintro v F' ⟨l', rfl, rfl, rfl⟩; exact ⟨rfl, rfl⟩
theorem putsA3 {F : List SP} {gs gm g : Nat} {v1 : Value} : SC Try.prog n_entrepotlaw08_puts [.pointer (some ⟨gs, 0, none⟩), .string sDEFG, .bool false, .int .i64 10] b (stB gs gm 32 5 3 [⟨cutR (sumM (strI sABC)) 32, strI sABC, g, v1⟩] F) (fun v F' => v = .bool true ∧ F' = stB gs gm 32 5 3 [⟨cutR (sumM (strI sABC)) 32, strI sABC, g, v1⟩] F) := by
  have hne := sum_neq
  have hi1 := idOk_cut (strI sABC) 32
  have hi2 := idOk_cut (strI sDEFG) 32
  have hlA : (strI sABC).length = 3 := rfl
  have hlD : (strI sDEFG).length = 4 := rfl
  refine (puts_S (Pl := fun l' => l' = [⟨cutR (sumM (strI sABC)) 32, strI sABC, g, v1⟩]) (u' := 3) (by decide) (by omega) fun F vb hv => (Put_none hv (by decide) hi2 (by rw [findK, if_neg hne, findK]) (by omega)).mono ?_).mono ?_
  · intro v F' h
    have e0 : putE0 (cutR (sumM (strI sDEFG)) 32) (strI sDEFG) 32 5 3 = 10 := by
      rw [putE0, if_neg (by rw [hlD]; omega), if_pos rfl, if_pos (by rw [hlD]; omega)]
    rw [e0, if_neg (by omega)] at h
    obtain ⟨rfl, rfl⟩ := h
    exact ⟨_, rfl, rfl, rfl⟩
  · rintro v F' ⟨l', rfl, rfl, rfl⟩; exact ⟨rfl, rfl⟩
set_option maxHeartbeats 1000000 in
theorem awakeB_S : SC Try.prog n_entrepotlaw08_awake [] b F (fun v F' => v = .bool true ∧ F' = F) := by
  have hp1 := @putsA1 b
  have hp2 := @putsA2 b
  have hp3 := @putsA3 b
  generalize cutR (sumM (strI sABC)) 32 = dA at *
  refine enterS F_entrepotlaw08_awake rfl rfl rfl ?_
  (refine sw_seq ?_; refine sw_region ?_; refine so_1 rfl ?_; refine so_nil ?_; refine sn_then ?_; refine sw_seq ?_; refine sw_region ?_)
  refine so_call rfl rfl rfl (New_blob_S (by unfold newOk; omega)) ?_
  rintro _ _ ⟨gs, gm, rfl, rfl⟩
  ((iterate 5 refine so_1 rfl ?_); refine so_nil ?_; refine sn_then ?_; refine sw_seq ?_; refine sw_region ?_; (iterate 8 refine so_1 rfl ?_))
  refine so_call rfl rfl rfl (hp1 (F := F)) ?_
  rintro _ _ ⟨l', ⟨g, v1, rfl⟩, rfl, rfl⟩
  ((iterate 3 refine so_1 rfl ?_))
  refine so_callE rfl rfl rfl (hp2 (F := F)) ?_
  ((iterate 3 refine so_1 rfl ?_))
  refine so_callE rfl rfl rfl (Used_S) ?_
  ((iterate 4 refine so_1 rfl ?_))
  refine so_callE rfl rfl rfl (hp3 (F := F)) ?_
  ((iterate 2 refine so_1 rfl ?_); refine so_nil ?_; refine sn_then ?_; refine sw_ret ?_)
  refine sn_ret rfl (.tmp rfl .nil) (ent_keep 3 [] rfl rfl) ?_
  exact ⟨rfl, rfl⟩
end
end Go.Proofs.Ytahimopjohdkjaa
/- Blobs, part seventeen: BlobNone. Conditions: none. -/
namespace Go.Proofs.Ytahimopjohdkjaa
open Go.Eng Go.RowKit Go.WideMaps

theorem SC.framed {P : Program} {f : Nat} {args : List Value} {b : World} {A B F : List SP} {v : Value} (h : SC P f args b (A ++ B ++ F) (fun u G => u = v ∧ G = A ++ B ++ F)) : SC P f args b (B ++ (A ++ F)) (fun u G => u = v ∧ G = B ++ (A ++ F)) :=
  h.at (ent_perm (by rw [← List.append_assoc]; exact List.Perm.append_right F List.perm_append_comm)) (ent_perm (by rw [← List.append_assoc]; exact List.Perm.append_right F List.perm_append_comm))
set_option maxHeartbeats 1000000 in
theorem walk_BlobNone {W : World} {v1 : Value} {xs0 xs1 : List Int} (hl0 : xs0.length = 32) (_ : byteW xs0) (h1 : VL (Value.int .u8) W v1 xs1) : Calls Try.prog n_entrepotlaw08_BlobNone #[idV xs0, v1] W (fun e w' => e = .returned (.bool true) ∧ Ext W w') := by
  obtain ⟨bA, bc, rfl, f1, f2, f3⟩ := h1.form
  refine law_of (args := [idV xs0, .slice bA xs1.length bc]) ?_
  refine enterS F_entrepotlaw08_BlobNone rfl rfl rfl ?_
  (refine sw_seq ?_; refine sw_region ?_)
  refine so_box rfl rfl rfl rfl rfl fun g2 => ?_
  (refine so_1 rfl ?_; refine so_nil ?_; refine sn_then ?_; refine sw_seq ?_; refine sw_region ?_; refine so_1 rfl ?_)
  refine so_box rfl rfl rfl rfl rfl fun g8 => ?_
  refine so_lit [.pointer none, .pointer (some ⟨g8, 0, none⟩)] rfl rfl rfl rfl rfl rfl rfl rfl rfl fun g9 => ?_
  (refine so_1 rfl ?_; refine so_nil ?_; refine sn_then ?_; (iterate 2 refine sw_seq ?_); refine sw_region ?_; refine so_1 rfl ?_; refine so_nil ?_; refine sn_then ?_; refine sw_block ?_)
  refine sw_loop (S := Nat) (fun i => [(1, .slice bA xs1.length bc), (2, .pointer (some ⟨g2, 0, none⟩)), (5, .slice (some ⟨g9, 0, none⟩) 2 2), (6, .int .i64 (i : Int))]) (fun _ => pt g9 t_p_blob_Store [.pointer none, .pointer (some ⟨g8, 0, none⟩)] :: pt g8 t_blob_Store [.int .i64 0, .int .i64 0, .int .i64 0, .map none] :: pt g2 t_api_ID (u8s xs0) :: [Is W]) (fun i => i ≤ 2) (fun i => 2 - i) 0 ⟨rfl, rfl, rfl, rfl, trivial⟩ (Ent.refl _) (Nat.zero_le _) ?_
  intro i hi
  have hp : i < 2 → ∃ q, nth [Value.pointer none, .pointer (some ⟨g8, 0, none⟩)] (0 + mulz (i : Int).toNat 1) = some (.pointer q) ∧ ∀ A : List SP, SC Try.prog n_p_blob_Store_none [.pointer q] W (A ++ (pt g9 t_p_blob_Store [.pointer none, .pointer (some ⟨g8, 0, none⟩)] :: pt g8 t_blob_Store [.int .i64 0, .int .i64 0, .int .i64 0, .map none] :: pt g2 t_api_ID (u8s xs0) :: [Is W]))
      (fun v F' => v = .bool true ∧ F' = A ++ (pt g9 t_p_blob_Store [.pointer none, .pointer (some ⟨g8, 0, none⟩)] :: pt g8 t_blob_Store [.int .i64 0, .int .i64 0, .int .i64 0, .map none] :: pt g2 t_api_ID (u8s xs0) :: [Is W])) := by
    intro h
    rcases (show i = 0 ∨ i = 1 by omega) with rfl | rfl
    · exact ⟨_, rfl, fun A => noneN_S⟩
    · refine ⟨_, rfl, fun A => ?_⟩
      have h2 := noneE_S (gs := g8) (b := W) (F := A ++ (pt g9 t_p_blob_Store [.pointer none, .pointer (some ⟨g8, 0, none⟩)] :: pt g2 t_api_ID (u8s xs0) :: [Is W]))
      have hperm : (A ++ (pt g9 t_p_blob_Store [.pointer none, .pointer (some ⟨g8, 0, none⟩)] :: pt g8 t_blob_Store [.int .i64 0, .int .i64 0, .int .i64 0, .map none] :: pt g2 t_api_ID (u8s xs0) :: [Is W])).Perm
          (pt g8 t_blob_Store [.int .i64 0, .int .i64 0, .int .i64 0, .map none] :: (A ++ (pt g9 t_p_blob_Store [.pointer none, .pointer (some ⟨g8, 0, none⟩)] :: pt g2 t_api_ID (u8s xs0) :: [Is W]))) :=
        (List.Perm.append_left A (.swap _ _ _)).trans List.perm_middle
      exact h2.at (ent_perm hperm) (ent_perm hperm.symm)
  ((iterate 2 refine sw_seq ?_); refine sw_region ?_; (iterate 4 refine so_1 rfl ?_); refine so_nil ?_; refine sn_then ?_)
  refine sw_if rfl (fun h => ?_) (fun h => ?_)
  · obtain ⟨q, hq1, hq2⟩ := hp (by omega)
    clear hp
    (refine sw_skip ?_; refine sn_then ?_; refine sw_seq ?_; refine sw_block ?_; refine sw_seq ?_; refine sw_region ?_; (iterate 2 refine so_1 rfl ?_); refine so_2 rfl (by omega) ?_)
    refine so_ld 0 rfl rfl rfl rfl rfl rfl hq1 rfl ?_
    (refine so_1 rfl ?_; refine so_nil ?_; refine sn_then ?_; refine sw_seq ?_; refine sw_region ?_; refine so_1 rfl ?_)
    refine so_ldA 2 rfl rfl rfl rfl rfl rfl (segID hl0) rfl ?_
    (refine so_1 rfl ?_)
    refine so_callE rfl rfl rfl (NPut_S hq2) ?_
    ((iterate 5 refine so_1 rfl ?_); refine so_nil ?_; refine sn_then ?_; refine sw_seq ?_; refine sw_region ?_; refine so_1 rfl ?_)
    refine so_ldA 2 rfl rfl rfl rfl rfl rfl (segID hl0) rfl ?_
    refine so_callE rfl rfl rfl (NGet_S hq2) ?_
    ((iterate 5 refine so_1 rfl ?_); refine so_nil ?_; refine sn_then ?_; refine sw_seq ?_; refine sw_region ?_; refine so_1 rfl ?_)
    refine so_ldA 2 rfl rfl rfl rfl rfl rfl (segID hl0) rfl ?_
    refine so_callE rfl rfl rfl (NSize_S hq2 hl0) ?_
    ((iterate 5 refine so_1 rfl ?_); refine so_nil ?_; refine sn_then ?_; refine sw_seq ?_; refine sw_region ?_; (iterate 22 refine so_1 rfl ?_))
    refine so_ldA 2 rfl rfl rfl rfl rfl rfl (segID hl0) rfl ?_
    refine so_callE rfl rfl rfl (NDrop_S hq2 hl0) ?_
    ((iterate 3 refine so_1 rfl ?_))
    refine so_callE rfl rfl rfl (NIDs_S hq2) ?_
    ((iterate 5 refine so_1 rfl ?_))
    refine so_callE rfl rfl rfl (NUsed_S hq2) ?_
    ((iterate 4 refine so_1 rfl ?_))
    refine so_callE rfl rfl rfl (NWidth_S hq2) ?_
    ((iterate 4 refine so_1 rfl ?_))
    refine so_callE rfl rfl rfl (NRoom_S hq2) ?_
    ((iterate 2 refine so_1 rfl ?_); refine so_nil ?_; refine sn_then ?_; refine sw_cond_f rfl ?_; refine sw_skip ?_; refine sn_block ?_; refine sn_then ?_; refine sw_region ?_; refine so_1 rfl ?_; refine so_2 rfl (by (unfold I64; omega)) ?_; refine so_1 rfl ?_; refine so_nil ?_)
    refine sn_round (i + 1) ⟨rfl, rfl, rfl, rfl, trivial⟩ (Ent.refl _) ?_ ?_
    · show i + 1 ≤ 2
      omega
    · show 2 - (i + 1) < 2 - i
      omega
  · (refine sw_exit ?_; refine sn_then_exit ?_; refine sn_loop_exit ?_; refine sn_block_exit ?_; refine sn_then ?_; refine sw_seq ?_; refine sw_region ?_)
    refine so_callE rfl rfl rfl (awakeB_S) ?_
    (refine so_1 rfl ?_; refine so_nil ?_; refine sn_then ?_; refine sw_ret ?_)
    refine sn_ret rfl (.tmp rfl .nil) (ent_keep 3 [] rfl rfl) ?_
    exact ⟨rfl, rfl⟩
end Go.Proofs.Ytahimopjohdkjaa
/- Blobs, part eighteen: BlobKnown. Conditions: none. -/
namespace Go.Proofs.Ytahimopjohdkjaa
open Go.Eng Go.RowKit Go.WideMaps

theorem sum_neq2 : sumM [97, 98, 100] ≠ sumM [97, 98, 99] := by decide +kernel
theorem strABC : strI sABC = [97, 98, 99] := by decide
theorem strofABC : (strOfNums [97, 98, 99]).data = #[97, 98, 99] := by decide
section
variable {b : World} {F : List SP}
set_option maxHeartbeats 2000000 in
theorem BlobKnown_S : SC Try.prog n_entrepotlaw08_BlobKnown [] b F (fun v F' => v = .bool true ∧ F' = F) := by
  have hp1 := @putsA1 b
  have hne := sum_neq2
  have hsb := strofABC
  have e1 : cutR (sumM (strI sABC)) 32 = sumM [97, 98, 99] := by rw [cutR_32 (sumM_len _), strABC]
  rw [e1] at hp1
  have bw1 : byteW [97, 98, 99] := by intro c hc; simp at hc; omega
  have bw2 : byteW [97, 98, 100] := by intro c hc; simp at hc; omega
  have hi := idOk_of (sumM_len [97, 98, 99]) (sumM_byte _)
  have hsA : ∀ {F' : List SP} {v : Value}, (∀ w, Sat b F' w → VL (Value.int .u8) w v [97, 98, 99]) → SC Try.prog n_sha_Sum [v] b F' (fun u G => u = idV (sumM [97, 98, 99]) ∧ G = F') := fun h => Sum_S (by decide) h
  have hput : ∀ (F : List SP) (vb : Value) (gs gm g : Nat) (v1 : Value), (∀ w, Sat b F w → VL (Value.int .u8) w vb [97, 98, 100]) → SC Try.prog n_p_blob_Store_Put [.pointer (some ⟨gs, 0, none⟩), idV (sumM [97, 98, 99]), vb] b (stB gs gm 32 5 3 [⟨sumM [97, 98, 99], [97, 98, 99], g, v1⟩] F)
      (fun v F' => v = .tuple ⟨[.bool false, .int .i64 8]⟩ ∧ F' = stB gs gm 32 5 3 [⟨sumM [97, 98, 99], [97, 98, 99], g, v1⟩] F) := fun F vb gs gm g v1 hv => by
    have h := Put_some (w := 32) (r := 5) (u := 3) (gs := gs) (gm := gm) (l := [⟨sumM [97, 98, 99], [97, 98, 99], g, v1⟩]) hv (by decide) hi (by rw [findK, if_pos rfl]) bw2 bw1
    have e2 : putE1 (sumM [97, 98, 99]) [97, 98, 100] ⟨sumM [97, 98, 99], [97, 98, 99], g, v1⟩ 32 = 8 := by
      rw [putE1, if_neg (by simp), cutR_32 (sumM_len _), if_neg hne]
    rwa [e2] at h
  rw [strABC] at hp1
  clear e1 hne
  have hfind : ∀ g v1, findK (sumM [97, 98, 99]) [⟨sumM [97, 98, 99], [97, 98, 99], g, v1⟩] = some ⟨sumM [97, 98, 99], [97, 98, 99], g, v1⟩ := fun g v1 => by rw [findK, if_pos rfl]
  have hdel : ∀ g v1, delK (sumM [97, 98, 99]) [⟨sumM [97, 98, 99], [97, 98, 99], g, v1⟩] = [] := fun g v1 => by simp [delK]
  generalize sumM [97, 98, 99] = dA at *
  refine enterS F_entrepotlaw08_BlobKnown rfl rfl rfl ?_
  (refine sw_seq ?_; refine sw_region ?_; refine so_1 rfl ?_; refine so_nil ?_; refine sn_then ?_; refine sw_seq ?_; refine sw_region ?_)
  refine so_call rfl rfl rfl (New_blob_S (by unfold newOk; omega)) ?_
  rintro _ _ ⟨gs, gm, rfl, rfl⟩
  ((iterate 5 refine so_1 rfl ?_); refine so_nil ?_; refine sn_then ?_; (iterate 2 refine sw_seq ?_); refine sw_region ?_; (iterate 8 refine so_1 rfl ?_))
  refine so_call rfl rfl rfl (hp1) ?_
  rintro _ _ ⟨l', ⟨g, v1, rfl⟩, rfl, rfl⟩
  ((iterate 2 refine so_1 rfl ?_); refine so_nil ?_; refine sn_then ?_; refine sw_cond_f rfl ?_; refine sw_skip ?_; refine sn_then ?_; refine sw_seq ?_; refine sw_region ?_)
  refine so_lit ([97, 98, 99].map (Value.int .u8)) rfl rfl rfl rfl rfl rfl rfl rfl rfl fun g2 => ?_
  refine so_mark 0 rfl rfl rfl rfl rfl rfl rfl rfl ?_
  refine so_callE rfl rfl rfl (hsA (fun w H => H.ptz_vl (k := 0) rfl rfl (Nat.le_refl _) (by omega) (fun j hj => rfl))) ?_
  skip
  refine so_new rfl rfl rfl rfl rfl fun g3 => ?_
  refine so_stW 0 rfl rfl rfl rfl rfl rfl rfl (by rw [u8s_len, hi.1]; rfl) (u8s_one _) (by simp [hi.1]) ?_
  (refine so_nil ?_; refine sn_then ?_; refine sw_seq ?_; refine sw_region ?_; refine so_1 rfl ?_)
  refine so_ldA 0 rfl rfl rfl rfl rfl rfl (segID hi.1) rfl ?_
  refine so_call rfl rfl rfl ((Get_some hi (hfind g v1) (by simp)).ent (ent_keep 5 [2, 3, 4, 0, 1] rfl rfl)) ?_
  rintro _ _ ⟨v2, rfl, rfl⟩
  ((iterate 5 refine so_1 rfl ?_); refine so_nil ?_; refine sn_then ?_; refine sw_seq ?_; refine sw_region ?_; refine so_1 rfl ?_)
  refine so_ldA 4 rfl rfl rfl rfl rfl rfl (segID hi.1) rfl ?_
  skip
  refine so_lit ([97, 98, 100].map (Value.int .u8)) rfl rfl rfl rfl rfl rfl rfl rfl rfl fun g4 => ?_
  refine so_mark 0 rfl rfl rfl rfl rfl rfl rfl rfl ?_
  refine so_callE rfl rfl rfl ((hput _ _ gs gm g v1 (fun w H => H.ptz_vl (k := 0) rfl rfl (Nat.le_refl _) (by simp) (fun j hj => rfl))).at (ent_keep 5 [2, 3, 4, 0, 1] rfl rfl) (ent_keep 5 [3, 4, 0, 1, 2] rfl rfl)) ?_
  ((iterate 5 refine so_1 rfl ?_); refine so_nil ?_; refine sn_then ?_; refine sw_seq ?_; refine sw_region ?_)
  refine so_callE rfl rfl rfl (New_blob_bad (by unfold newOk; omega)) ?_
  ((iterate 5 refine so_1 rfl ?_); refine so_nil ?_; refine sn_then ?_; refine sw_seq ?_; refine sw_region ?_)
  refine so_callE rfl rfl rfl (New_blob_bad (by unfold newOk; omega)) ?_
  ((iterate 5 refine so_1 rfl ?_); refine so_nil ?_; refine sn_then ?_; refine sw_seq ?_; refine sw_region ?_)
  refine so_callE rfl rfl rfl (New_blob_bad (by unfold newOk; omega)) ?_
  ((iterate 5 refine so_1 rfl ?_); refine so_nil ?_; refine sn_then ?_; (iterate 2 refine sw_seq ?_); refine sw_region ?_; (iterate 4 refine so_1 rfl ?_))
  refine so_b2s rfl rfl rfl rfl rfl rfl rfl (vlB (k := 1) rfl) ?_
  ((iterate 20 refine so_1 rfl ?_))
  refine so_know 65 (.bool false) rfl (congrArg Value.bool (by simp [hsb])) ?_
  skip
  refine so_ldA 5 rfl rfl rfl rfl rfl rfl (segID hi.1) rfl ?_
  refine so_call rfl rfl rfl ((Drop_some hi (hfind g v1) (by simp) (by simp) (by omega)).ent (ent_keep 7 [2, 3, 4, 1, 5] rfl rfl)) ?_
  rintro _ _ ⟨rfl, rfl⟩
  rw [hdel]
  ((iterate 4 refine so_1 rfl ?_))
  refine so_ldA 4 rfl rfl rfl rfl rfl rfl (segID hi.1) rfl ?_
  refine so_callE rfl rfl rfl (Drop_none hi rfl) ?_
  (refine so_1 rfl ?_; refine so_nil ?_; refine sn_then ?_; refine sw_cond_f rfl ?_; refine sw_skip ?_; refine sn_then ?_; refine sw_seq ?_; refine sw_region ?_; refine so_1 rfl ?_)
  refine so_ldA 4 rfl rfl rfl rfl rfl rfl (segID hi.1) rfl ?_
  refine so_callE rfl rfl rfl (Size_none hi rfl) ?_
  ((iterate 5 refine so_1 rfl ?_); refine so_nil ?_; refine sn_then ?_; refine sw_seq ?_; refine sw_region ?_)
  refine so_callE rfl rfl rfl (awakeB_S) ?_
  ((iterate 2 refine so_1 rfl ?_))
  refine so_call rfl rfl rfl (IDs_S (l := []) (fun _ h => by simp at h) (by simp)) ?_
  rintro _ _ ⟨A, c, L, rfl, _, hperm, rfl⟩
  obtain rfl : L = [] := hperm.eq_nil
  refine so_ent (ent_keep 1 [] rfl rfl) ?_
  ((iterate 13 refine so_1 rfl ?_))
  refine so_callE rfl rfl rfl (Room_S) ?_
  ((iterate 4 refine so_1 rfl ?_))
  refine so_callE rfl rfl rfl (Width_S) ?_
  ((iterate 3 refine so_1 rfl ?_); refine so_nil ?_; refine sn_then ?_; refine sw_ret ?_)
  refine sn_ret rfl (.tmp rfl .nil) (ent_keep 5 [] rfl rfl) ?_
  exact ⟨rfl, rfl⟩
end
theorem walk_BlobKnown {W : World} : Calls Try.prog n_entrepotlaw08_BlobKnown #[] W (fun e w' => e = .returned (.bool true) ∧ Ext W w') := law_of (args := []) BlobKnown_S
end Go.Proofs.Ytahimopjohdkjaa
/- Blobs, part nineteen: lists of blobs that came in. Conditions: none. -/
namespace Go.Proofs.Ytahimopjohdkjaa
open Go.Eng Go.RowKit Go.WideMaps

theorem flat_one {α : Type} {f : α → Value} : ∀ {ess : List (List Value)} {xs : List α}, ess.length = xs.length → (∀ (i : Nat) e a, ess[i]? = some e → xs[i]? = some a → e = [f a]) → ess.flatten = xs.map f
  | [], [], _, _ => rfl
  | [], _ :: _, h, _ => by simp at h
  | _ :: _, [], h, _ => by simp at h
  | e :: ess, a :: xs, h, hh => by
    rw [List.flatten_cons, hh 0 e a rfl rfl, flat_one (by simpa using h) fun i e a h1 h2 => hh (i + 1) e a h1 h2]; rfl
theorem vl_of_rd {W : World} {v : Value} {k : IntKind} {x : Value × List Int} (h : rdL 1 (rdI k) W [v] x) : VL (Value.int k) W v x.2 ∧ ∀ n ∈ x.2, (Lit.int k n).wf = true := by
  obtain ⟨hv, ess, e1, e2, e3, e4⟩ := h
  simp only [List.cons.injEq, and_true] at hv
  subst hv
  have hf := flat_one (f := Value.int k) e1 fun i e a h1 h2 => (e4 i e a h1 h2).1
  rw [hf] at e3
  refine ⟨e3, fun n hn => ?_⟩
  obtain ⟨i, hi, rfl⟩ := List.mem_iff_getElem.1 hn
  exact (e4 i _ _ (List.getElem?_eq_getElem (by omega)) (List.getElem?_eq_getElem hi)).2
/-- v is a list of blobs, and reads as xss. -/
def LB (W : World) (v : Value) (xss : List (List Int)) : Prop := ∃ vs : List Value, vs.length = xss.length ∧ VL id W v vs ∧ ∀ (i : Nat) u xs, vs[i]? = some u → xss[i]? = some xs → VL (Value.int .u8) W u xs ∧ byteW xs
theorem lb_of_rd {W : World} {v : Value} {x : Value × List (Value × List Int)} (h : rdL 1 (rdL 1 (rdI .u8)) W [v] x) : LB W v (x.2.map (·.2)) := by
  obtain ⟨hv, ess, e1, e2, e3, e4⟩ := h
  simp only [List.cons.injEq, and_true] at hv
  subst hv
  have hf : ess.flatten = (x.2.map (·.1)).map id := by
    rw [List.map_map]
    exact flat_one e1 fun i e a h1 h2 => (e4 i e a h1 h2).1
  rw [hf] at e3
  refine ⟨x.2.map (·.1), by simp, ?_, fun i u xs h1 h2 => ?_⟩
  · unfold VL; rw [List.length_map]; exact e3
  · simp only [List.getElem?_map, Option.map_eq_some_iff] at h1 h2
    obtain ⟨a, ha, rfl⟩ := h1
    obtain ⟨a', ha', rfl⟩ := h2
    obtain rfl : a = a' := by rw [ha] at ha'; exact Option.some.inj ha'
    have hi : i < ess.length := by rw [e1]; exact (List.getElem?_eq_some_iff.1 ha).1
    have := e4 i _ a (List.getElem?_eq_getElem hi) ha
    have hu : ess[i] = [a.1] := this.1
    rw [hu] at this
    obtain ⟨h3, h4⟩ := vl_of_rd this
    exact ⟨h3, byteW_of h4⟩
theorem LB.get {W : World} {v : Value} {xss : List (List Int)} (h : LB W v xss) : ∃ A c, v = .slice A xss.length c ∧ xss.length ≤ c ∧ c ≤ 9223372036854775807 ∧ ∀ i (hi : i < xss.length), ∃ bk off u, A = some ⟨bk, off, none⟩ ∧ bk < W.heap.size ∧ W.cell? ⟨bk, off + i, none⟩ = some u ∧ VL (Value.int .u8) W u xss[i] ∧ byteW xss[i] := by
  obtain ⟨vs, h1, h2, h3⟩ := h
  obtain ⟨A, c, rfl, f1, f2, f3, f4⟩ := h2.op
  refine ⟨A, c, by rw [h1], by omega, f2, fun i hi => ?_⟩
  obtain ⟨bk, off, g1, g2, g3⟩ := f4 i (by omega)
  refine ⟨bk, off, vs[i]'(by omega), g1, g2, g3 i (by omega), ?_⟩
  exact h3 i _ _ (List.getElem?_eq_getElem (by omega)) (List.getElem?_eq_getElem hi)
theorem is_cell {b : World} {F : List SP} {bk off k : Nat} {u : Value} (hk : nth F k = some (Is b)) (hb : bk < b.heap.size) (hc : b.cell? ⟨bk, off, none⟩ = some u) : ∀ w, Sat b F w → w.cell? ⟨bk, off, none⟩ = some u := fun w H => by
  exact (H.is hk).cell hc
section
variable {b : World} {F : List SP} {v : Value} {xss : List (List Int)} {n m : Int}
theorem LongLists_S (hl : LB b v xss) (hF : nth F 0 = some (Is b)) (hn : I64 n) (hm : I64 m) : SC Try.prog n_entrepotkit_LongLists [v, .int .i64 n, .int .i64 m] b F (fun u F' => ∃ r : Bool, (r = false → (xss.length : Int) ≤ n ∧ ∀ xs ∈ xss, (xs.length : Int) ≤ m) ∧ u = .bool r ∧ F' = F) := by
  obtain ⟨A, c, rfl, f1, f2, f3⟩ := hl.get
  refine enterS F_entrepotkit_LongLists rfl rfl rfl ?_
  (refine sw_seq ?_; refine sw_region ?_; refine so_1 rfl ?_; refine so_nil ?_; refine sn_then ?_; (iterate 2 refine sw_seq ?_); refine sw_region ?_; refine so_1 rfl ?_; refine so_nil ?_; refine sn_then ?_; refine sw_block ?_)
  refine sw_loop (S := Nat) (fun i => [(0, .slice A xss.length c), (1, .int .i64 n), (2, .int .i64 m), (7, .int .i64 (i : Int))]) (fun _ => F) (fun i => i ≤ xss.length ∧ ∀ k (hk : k < xss.length), k < i → (xss[k].length : Int) ≤ m) (fun i => xss.length - i) 0 ⟨rfl, rfl, rfl, rfl, trivial⟩ (Ent.refl _) ⟨Nat.zero_le _, fun k _ h => absurd h (Nat.not_lt_zero k)⟩ ?_
  rintro i ⟨hi, hk⟩
  ((iterate 2 refine sw_seq ?_); refine sw_region ?_; (iterate 5 refine so_1 rfl ?_))
  by_cases h1 : i < xss.length
  · refine so_know 12 (.bool true) rfl (by simp; omega) ?_
    ((iterate 4 refine so_1 rfl ?_); refine so_nil ?_; refine sn_then ?_)
    refine sw_if rfl (fun h2 => ?_) (fun h2 => ?_)
    · obtain ⟨bk, off, u, rfl, g1, g2, g3, g4⟩ := f3 i h1
      (refine sw_skip ?_; refine sn_then ?_; refine sw_seq ?_; refine sw_block ?_; refine sw_seq ?_; refine sw_region ?_; (iterate 2 refine so_1 rfl ?_); refine so_2 rfl (by omega) ?_)
      refine so_rd rfl (fun w H => ex_load rfl rfl rfl (by rw [mulz_eq, Nat.mul_one]; exact is_cell hF g1 g2 w H)) rfl ?_
      obtain ⟨A2, c2, rfl, q1, q2, q3, q4⟩ := g3.form
      ((iterate 3 refine so_1 rfl ?_); refine so_nil ?_; refine sn_then ?_)
      refine sw_if rfl (fun h3 => ?_) (fun h3 => ?_)
      · (refine sw_seq ?_; refine sw_region ?_; refine so_1 rfl ?_; refine so_nil ?_; refine sn_then ?_; refine sw_ret ?_; refine sn_block_ret ?_; refine sn_then_ret ?_; refine sn_loop_ret ?_; refine sn_block_ret ?_; refine sn_then_ret ?_)
        refine sn_ret rfl (.tmp rfl .nil) (Ent.refl _) ?_
        exact ⟨true, (fun h => by cases h), rfl, rfl⟩
      · (refine sw_skip ?_; refine sn_block ?_; refine sn_then ?_; refine sw_region ?_; refine so_1 rfl ?_; refine so_2 rfl (by (unfold I64; omega)) ?_; refine so_1 rfl ?_; refine so_nil ?_)
        refine sn_round (i + 1) ⟨rfl, rfl, rfl, rfl, trivial⟩ (Ent.refl _) ⟨h1, fun k hk' hlt => ?_⟩ (by first | omega | (dsimp only; omega))
        by_cases e : k = i
        · subst e; omega
        · exact hk k hk' (by omega)
    · (refine sw_exit ?_; refine sn_then_exit ?_; refine sn_loop_exit ?_; refine sn_block_exit ?_; refine sn_then ?_; refine sw_seq ?_; refine sw_region ?_; (iterate 5 refine so_1 rfl ?_); refine so_nil ?_; refine sn_then ?_; refine sw_ret ?_)
      refine sn_ret rfl (.tmp rfl .nil) (Ent.refl _) ?_
      exact ⟨_, fun h => by simp at h; omega, rfl, rfl⟩
  · refine so_know 12 (.bool false) rfl (by simp; omega) ?_
    ((iterate 4 refine so_1 rfl ?_); refine so_nil ?_; refine sn_then ?_; refine sw_cond_f rfl ?_; refine sw_exit ?_; refine sn_then_exit ?_; refine sn_loop_exit ?_; refine sn_block_exit ?_; refine sn_then ?_; refine sw_seq ?_; refine sw_region ?_; (iterate 5 refine so_1 rfl ?_); refine so_nil ?_; refine sn_then ?_; refine sw_ret ?_)
    refine sn_ret rfl (.tmp rfl .nil) (Ent.refl _) ?_
    refine ⟨_, fun h => ⟨by simpa using h, fun xs hx => ?_⟩, rfl, rfl⟩
    obtain ⟨k, hk', rfl⟩ := List.mem_iff_getElem.1 hx
    exact hk k hk' (by omega)
theorem SameBytes_S {va vb : Value} {xs ys : List Int} (ha : ∀ w, Sat b F w → VL (Value.int .u8) w va xs) (hb : ∀ w, Sat b F w → VL (Value.int .u8) w vb ys) (hx : byteW xs) (hy : byteW ys) :
    SC Try.prog n_entrepotkit_SameBytes [va, vb] b F (fun v F' => v = .bool (decide (xs = ys)) ∧ F' = F) := by
  rw [← strOf_dec hx hy]
  refine enterS F_entrepotkit_SameBytes rfl rfl rfl ?_
  (refine sw_seq ?_; refine sw_region ?_; refine so_1 rfl ?_; refine so_nil ?_; refine sn_then ?_; refine sw_seq ?_; refine sw_region ?_; refine so_1 rfl ?_)
  refine so_b2s rfl rfl rfl rfl rfl rfl rfl ha ?_
  (refine so_1 rfl ?_)
  refine so_b2s rfl rfl rfl rfl rfl rfl rfl hb ?_
  ((iterate 2 refine so_1 rfl ?_); refine so_nil ?_; refine sn_then ?_; refine sw_ret ?_)
  refine sn_ret rfl (.tmp rfl .nil) (ent_keep 0 [] rfl rfl) ?_
  exact ⟨rfl, rfl⟩
end
end Go.Proofs.Ytahimopjohdkjaa
/- Blobs, part twenty: BlobConflict. Conditions: none. -/
namespace Go.Proofs.Ytahimopjohdkjaa
open Go.Eng Go.RowKit Go.WideMaps

section
variable {b : World} {F : List SP} {va vb : Value} {xs ys : List Int} {id : List Int}
set_option maxHeartbeats 2000000 in
theorem apart_S (hid : idOk id) (ha : ∀ w, Sat b F w → VL (Value.int .u8) w va xs) (hb : ∀ w, Sat b F w → VL (Value.int .u8) w vb ys) (hx : byteW xs) (hy : byteW ys) (hlx : xs.length ≤ 20) (hly : ys.length ≤ 20) (e1 : cutR (sumM xs) 1 = id) (e2 : cutR (sumM ys) 1 = id) (hne : xs ≠ ys) :
    SC Try.prog n_entrepotlaw08_apart [idV id, va, vb] b F (fun v F' => v = .bool true ∧ F' = F) := by
  have p1 : putE0 id xs 1 100 0 = 0 := by rw [putE0, if_neg (by omega), if_pos e1, if_neg (by omega)]
  have p2 : ∀ g v1, putE1 id ys ⟨id, xs, g, v1⟩ 1 = 9 := fun g v1 => by rw [putE1, if_neg (by omega), if_pos e2, if_neg hne]
  have p3 : putE0 id ys 1 100 0 = 0 := by rw [putE0, if_neg (by omega), if_pos e2, if_neg (by omega)]
  have hfind : ∀ xs g v1, findK id [⟨id, xs, g, v1⟩] = some ⟨id, xs, g, v1⟩ := fun xs g v1 => by rw [findK, if_pos rfl]
  have hdel : ∀ g v1, delK id [⟨id, xs, g, v1⟩] = [] := fun g v1 => by simp [delK]
  clear e1 e2
  refine enterS F_entrepotlaw08_apart rfl rfl rfl ?_
  refine sw_fact (fun w H => (ha w H).form) ?_
  rintro ⟨bA, bc, rfl, f1, f2, f3, f4⟩
  refine sw_fact (fun w H => (hb w H).form) ?_
  rintro ⟨bA2, bc2, rfl, q1, q2, q3, q4⟩
  (refine sw_seq ?_; refine sw_region ?_)
  refine so_box rfl rfl rfl rfl rfl fun g3 => ?_
  (refine so_1 rfl ?_; refine so_nil ?_; refine sn_then ?_; refine sw_seq ?_; refine sw_region ?_)
  refine so_call rfl rfl rfl (New_blob_S (by unfold newOk; omega)) ?_
  rintro _ _ ⟨gs, gm, rfl, rfl⟩
  ((iterate 5 refine so_1 rfl ?_); refine so_nil ?_; refine sn_then ?_; (iterate 2 refine sw_seq ?_); refine sw_region ?_; (iterate 6 refine so_1 rfl ?_); refine so_nil ?_; refine sn_then ?_; refine sw_cond_f rfl ?_; refine sw_skip ?_; refine sn_then ?_; refine sw_seq ?_; refine sw_region ?_; refine so_1 rfl ?_)
  refine so_ldA 3 rfl rfl rfl rfl rfl rfl (segID hid.1) rfl ?_
  (refine so_1 rfl ?_)
  refine so_call rfl rfl rfl (Put_none (up ha (ent_keep 1 [] rfl rfl)) (by omega) hid rfl (by omega)) ?_
  rintro v F' h
  rw [p1] at h
  obtain ⟨rfl, g, v1, rfl⟩ := h
  rw [List.nil_append]
  ((iterate 5 refine so_1 rfl ?_); refine so_nil ?_; refine sn_then ?_; refine sw_seq ?_; refine sw_region ?_; refine so_1 rfl ?_)
  refine so_ldA 3 rfl rfl rfl rfl rfl rfl (segID hid.1) rfl ?_
  (refine so_1 rfl ?_)
  refine so_callE rfl rfl rfl (Put_some (up hb (ent_keep 1 [] rfl rfl)) (by omega) hid (hfind xs g v1) hy hx) ?_
  rw [p2]
  ((iterate 5 refine so_1 rfl ?_); refine so_nil ?_; refine sn_then ?_; refine sw_seq ?_; refine sw_region ?_; refine so_1 rfl ?_)
  refine so_ldA 3 rfl rfl rfl rfl rfl rfl (segID hid.1) rfl ?_
  refine so_call rfl rfl rfl (Get_some hid (hfind xs g v1) (by dsimp only; omega)) ?_
  rintro _ _ ⟨v2, rfl, rfl⟩
  ((iterate 5 refine so_1 rfl ?_); refine so_nil ?_; refine sn_then ?_; (iterate 2 refine sw_seq ?_); refine sw_region ?_; (iterate 20 refine so_1 rfl ?_))
  refine so_callE rfl rfl rfl (SameBytes_S (vlB (k := 0) rfl) (up ha (ent_keep 5 [] rfl rfl)) hx hx) ?_
  ((iterate 3 refine so_1 rfl ?_))
  refine so_know 72 (.bool false) rfl (by simp) ?_
  (refine so_1 rfl ?_)
  refine so_ent (ent_keep 1 [] rfl rfl) ?_
  refine so_callE rfl rfl rfl (Used_S) ?_
  ((iterate 5 refine so_1 rfl ?_))
  refine so_know 79 (.bool false) rfl (by simp) ?_
  (refine so_1 rfl ?_)
  refine so_ldA 3 rfl rfl rfl rfl rfl rfl (segID hid.1) rfl ?_
  refine so_call rfl rfl rfl (Drop_some hid (hfind xs g v1) (by dsimp only; omega) (by dsimp only; omega) (by omega)) ?_
  rintro _ _ ⟨rfl, rfl⟩
  rw [hdel, show (0 : Int) + (xs.length : Int) - (((⟨id, xs, g, v1⟩ : Kp).b.length : Nat) : Int) = 0 by dsimp only; omega]
  ((iterate 2 refine so_1 rfl ?_); refine so_nil ?_; refine sn_then ?_; refine sw_cond_f rfl ?_; refine sw_skip ?_; refine sn_then ?_; refine sw_seq ?_; refine sw_region ?_; refine so_1 rfl ?_)
  refine so_ldA 3 rfl rfl rfl rfl rfl rfl (segID hid.1) rfl ?_
  (refine so_1 rfl ?_)
  refine so_call rfl rfl rfl (Put_none (up hb (ent_keep 1 [] rfl rfl)) (by omega) hid rfl (by omega)) ?_
  rintro v F' h
  rw [p3] at h
  obtain ⟨rfl, g', v1', rfl⟩ := h
  rw [List.nil_append]
  ((iterate 5 refine so_1 rfl ?_); refine so_nil ?_; refine sn_then ?_; refine sw_seq ?_; refine sw_region ?_; refine so_1 rfl ?_)
  refine so_ldA 3 rfl rfl rfl rfl rfl rfl (segID hid.1) rfl ?_
  refine so_call rfl rfl rfl (Get_some hid (hfind ys g' v1') (by dsimp only; omega)) ?_
  rintro _ _ ⟨v3, rfl, rfl⟩
  ((iterate 5 refine so_1 rfl ?_); refine so_nil ?_; refine sn_then ?_; refine sw_seq ?_; refine sw_region ?_; (iterate 11 refine so_1 rfl ?_))
  refine so_callE rfl rfl rfl (SameBytes_S (vlB (k := 0) rfl) (up hb (ent_keep 5 [] rfl rfl)) hy hy) ?_
  ((iterate 2 refine so_1 rfl ?_); refine so_nil ?_; refine sn_then ?_; refine sw_ret ?_)
  refine sn_ret rfl (.tmp rfl .nil) (ent_keep 5 [] rfl rfl) ?_
  exact ⟨by simp [tupl], rfl⟩
end
end Go.Proofs.Ytahimopjohdkjaa
/- Blobs, part twenty-one: BlobConflict. Conditions: none. -/
namespace Go.Proofs.Ytahimopjohdkjaa
open Go.Eng Go.RowKit Go.WideMaps

set_option maxHeartbeats 2000000 in
theorem walk_BlobConflict {W : World} {v0 : Value} {xss : List (List Int)} (h0 : LB W v0 xss) : Calls Try.prog n_entrepotlaw08_BlobConflict #[v0] W (fun e w' => e = .returned (.bool true) ∧ Ext W w') := by
  refine law_of (args := [v0]) ?_
  obtain ⟨A, c, rfl, f1, f2, f3⟩ := h0.get
  refine enterS F_entrepotlaw08_BlobConflict rfl rfl rfl ?_
  (refine sw_seq ?_; refine sw_region ?_; refine so_1 rfl ?_; refine so_nil ?_; refine sn_then ?_; refine sw_seq ?_; refine sw_region ?_)
  refine so_callE rfl rfl rfl (BlobKnown_S) ?_
  (refine so_1 rfl ?_; refine so_nil ?_; refine sn_then ?_; (iterate 2 refine sw_seq ?_); refine sw_region ?_; refine so_1 rfl ?_)
  refine so_call rfl rfl rfl (LongLists_S h0 rfl (by unfold I64; omega) (by unfold I64; omega)) ?_
  rintro _ _ ⟨r, hr, rfl, rfl⟩
  cases r
  rotate_left
  · (refine so_nil ?_; refine sn_then ?_; refine sw_cond_t rfl ?_; refine sw_seq ?_; refine sw_region ?_; (iterate 2 refine so_1 rfl ?_); refine so_nil ?_; refine sn_then ?_; refine sw_ret ?_; refine sn_then_ret ?_)
    refine sn_ret rfl (.tmp rfl .nil) (Ent.refl _) ?_
    exact ⟨rfl, rfl⟩
  obtain ⟨hr1, hr2⟩ := hr rfl
  have hlen : ∀ i (hi : i < xss.length), (xss[i].length : Int) ≤ 20 := fun i hi => hr2 _ (List.getElem_mem hi)
  (refine so_nil ?_; refine sn_then ?_; refine sw_cond_f rfl ?_; refine sw_skip ?_; refine sn_then ?_; (iterate 2 refine sw_seq ?_); refine sw_region ?_; refine so_1 rfl ?_; refine so_nil ?_; refine sn_then ?_; refine sw_block ?_)
  refine sw_loop (S := Nat) (fun i => [(0, .slice A xss.length c), (3, .bool true), (4, .int .i64 (i : Int))]) (fun _ => [Is W]) (fun i => i ≤ xss.length) (fun i => xss.length - i) 0 ⟨rfl, rfl, rfl, trivial⟩ (Ent.refl _) (Nat.zero_le _) ?_
  intro i hi
  ((iterate 2 refine sw_seq ?_); refine sw_region ?_; (iterate 4 refine so_1 rfl ?_); refine so_nil ?_; refine sn_then ?_)
  refine sw_if rfl (fun h1 => ?_) (fun h1 => ?_)
  rotate_left
  · (refine sw_exit ?_; refine sn_then_exit ?_; refine sn_loop_exit ?_; refine sn_block_exit ?_; refine sn_then ?_; refine sw_seq ?_; refine sw_region ?_; (iterate 2 refine so_1 rfl ?_); refine so_nil ?_; refine sn_then ?_; refine sw_ret ?_)
    refine sn_ret rfl (.tmp rfl .nil) (Ent.refl _) ?_
    exact ⟨rfl, rfl⟩
  have h1' : i < xss.length := by omega
  obtain ⟨bk, off, u, rfl, g1, g2, g3, g4⟩ := f3 i h1'
  have hli := hlen i h1'
  (refine sw_skip ?_; refine sn_then ?_; refine sw_seq ?_; refine sw_block ?_; refine sw_seq ?_; refine sw_region ?_; (iterate 2 refine so_1 rfl ?_); refine so_2 rfl (by omega) ?_)
  refine so_rd rfl (fun w H => ex_load rfl rfl rfl (by rw [mulz_eq, Nat.mul_one]; exact is_cell (k := 0) rfl g1 g2 w H)) rfl ?_
  refine so_callE rfl rfl rfl (Of_S (by omega) (is_vl g3 (k := 0) rfl)) ?_
  have hid := idOk_cut xss[i] 1
  generalize hd : cutR (sumM xss[i]) 1 = id at *
  ((iterate 3 refine so_1 rfl ?_))
  refine so_new rfl rfl rfl rfl rfl fun g5 => ?_
  refine so_stW 0 rfl rfl rfl rfl rfl rfl rfl (by rw [u8s_len, hid.1]; rfl) (u8s_one _) (by simp [hid.1]) ?_
  (refine so_1 rfl ?_; refine so_nil ?_; refine sn_then ?_; refine sw_seq ?_; refine sw_region ?_; refine so_1 rfl ?_; refine so_nil ?_; refine sn_then ?_; refine sw_block ?_)
  refine sw_loop (S := Nat) (fun k => [(0, .slice (some ⟨bk, off, none⟩) xss.length c), (3, .bool true), (4, .int .i64 (i : Int)), (5, .pointer (some ⟨g5, 0, none⟩)), (7, .int .i64 (k : Int))]) (fun _ => [pt g5 t_api_ID (u8s id), Is W]) (fun k => k ≤ i) (fun k => i - k) 0 ⟨rfl, rfl, rfl, rfl, rfl, trivial⟩ (Ent.refl _) (Nat.zero_le _) ?_
  intro k hk
  ((iterate 2 refine sw_seq ?_); refine sw_region ?_; (iterate 3 refine so_1 rfl ?_); refine so_nil ?_; refine sn_then ?_)
  refine sw_if rfl (fun h2 => ?_) (fun h2 => ?_)
  rotate_left
  · (refine sw_exit ?_; refine sn_then_exit ?_; refine sn_loop_exit ?_; refine sn_block_exit ?_; refine sn_block ?_; refine sn_then ?_; refine sw_region ?_; refine so_1 rfl ?_; refine so_2 rfl (by (unfold I64; omega)) ?_; refine so_1 rfl ?_; refine so_nil ?_)
    refine sn_round (i + 1) ⟨rfl, rfl, rfl, trivial⟩ (ent_keep 1 [] rfl rfl) ?_ ?_
    · show i + 1 ≤ xss.length
      omega
    · show xss.length - (i + 1) < xss.length - i
      omega
  have h2' : k < xss.length := by omega
  obtain ⟨bk', off', u', hA, q1, q2, q3, q4⟩ := f3 k h2'
  simp only [Option.some.injEq, Addr.mk.injEq, and_true] at hA
  obtain ⟨rfl, rfl⟩ := hA
  have hlk := hlen k h2'
  (refine sw_skip ?_; refine sn_then ?_; refine sw_seq ?_; refine sw_block ?_; refine sw_seq ?_; refine sw_region ?_; (iterate 2 refine so_1 rfl ?_); refine so_2 rfl (by omega) ?_)
  refine so_rd rfl (fun w H => ex_load rfl rfl rfl (by rw [mulz_eq, Nat.mul_one]; exact is_cell (k := 1) rfl q1 q2 w H)) rfl ?_
  refine so_callE rfl rfl rfl (Of_S (by omega) (is_vl q3 (k := 1) rfl)) ?_
  have hid' := idOk_cut xss[k] 1
  generalize hd' : cutR (sumM xss[k]) 1 = id' at *
  ((iterate 3 refine so_1 rfl ?_))
  refine so_new rfl rfl rfl rfl rfl fun g8 => ?_
  refine so_stW 0 rfl rfl rfl rfl rfl rfl rfl (by rw [u8s_len, hid'.1]; rfl) (u8s_one _) (by simp [hid'.1]) ?_
  (refine so_1 rfl ?_; refine so_nil ?_; refine sn_then ?_; refine sw_seq ?_)
  refine sw_draw flo [pt g8 t_api_ID (u8s id'), pt g5 t_api_ID (u8s id), Is W] (by decide +kernel) (Ent.refl _) ?_
  refine sd_ldA 1 rfl rfl rfl rfl rfl rfl (segID hid.1) rfl rfl ?_
  refine sd_ldA 0 rfl rfl rfl rfl rfl rfl (segID hid'.1) rfl rfl ?_
  refine sd_pu rfl (pu_eqI (as00 := id) (bs := id') rfl rfl hid.1 hid'.1) rfl rfl ?_
  by_cases he : id = id'
  · refine sd_know 43 (.bool true) rfl (congrArg Value.bool (decide_eq_true he)) ?_
    ((iterate 3 refine sd_1 rfl (.inl rfl) ?_); refine sd_2 rfl rfl (by omega) ?_)
    refine sd_rd rfl (fun w H => ex_load rfl rfl rfl (by rw [mulz_eq, Nat.mul_one]; exact is_cell (k := 2) rfl g1 g2 w H)) rfl rfl ?_
    ((iterate 2 refine sd_1 rfl (.inl rfl) ?_); refine sd_2 rfl rfl (by omega) ?_)
    refine sd_rd rfl (fun w H => ex_load rfl rfl rfl (by rw [mulz_eq, Nat.mul_one]; exact is_cell (k := 2) rfl q1 q2 w H)) rfl rfl ?_
    refine sd_callE rfl rfl rfl rfl (SameBytes_S (is_vl g3 (k := 2) rfl) (is_vl q3 (k := 2) rfl) g4 q4) (Ent.refl _) ?_
    ((iterate 2 refine sd_1 rfl (.inl rfl) ?_))
    refine sd_nil ?_
    by_cases hs : xss[i] = xss[k]
    · (refine sn_then ?_)
      refine sw_know 55 (.bool false) rfl (by simp [hs]) ?_
      (refine sw_cond_f rfl ?_; refine sw_skip ?_; refine sn_block ?_; refine sn_then ?_; refine sw_region ?_; refine so_1 rfl ?_; refine so_2 rfl (by (unfold I64; omega)) ?_; refine so_1 rfl ?_; refine so_nil ?_)
      refine sn_round (k + 1) ⟨rfl, rfl, rfl, rfl, rfl, trivial⟩ (ent_keep 1 [] rfl rfl) ?_ ?_
      · show k + 1 ≤ i
        omega
      · show i - (k + 1) < i - k
        omega
    · (refine sn_then ?_)
      refine sw_know 55 (.bool true) rfl (by simp [hs]) ?_
      (refine sw_cond_t rfl ?_; refine sw_seq ?_)
      refine sw_draw flo [pt g8 t_api_ID (u8s id'), pt g5 t_api_ID (u8s id), Is W] (by decide +kernel) (Ent.refl _) ?_
      ((iterate 2 refine sd_1 rfl (.inl rfl) ?_))
      refine sd_ldA 1 rfl rfl rfl rfl rfl rfl (segID hid.1) rfl rfl ?_
      ((iterate 2 refine sd_1 rfl (.inl rfl) ?_); refine sd_2 rfl rfl (by omega) ?_)
      refine sd_rd rfl (fun w H => ex_load rfl rfl rfl (by rw [mulz_eq, Nat.mul_one]; exact is_cell (k := 2) rfl q1 q2 w H)) rfl rfl ?_
      ((iterate 2 refine sd_1 rfl (.inl rfl) ?_); refine sd_2 rfl rfl (by omega) ?_)
      refine sd_rd rfl (fun w H => ex_load rfl rfl rfl (by rw [mulz_eq, Nat.mul_one]; exact is_cell (k := 2) rfl g1 g2 w H)) rfl rfl ?_
      refine sd_callE rfl rfl rfl rfl (apart_S hid (is_vl q3 (k := 2) rfl) (is_vl g3 (k := 2) rfl) q4 g4 (by omega) (by omega) (hd'.trans he.symm) hd (fun e => hs e.symm)) (Ent.refl _) ?_
      ((iterate 2 refine sd_1 rfl (.inl rfl) ?_))
      refine sd_nil ?_
      (refine sn_then ?_; refine sw_ret ?_; refine sn_block_ret ?_; refine sn_then_ret ?_; refine sn_loop_ret ?_; (iterate 2 refine sn_block_ret ?_); refine sn_then_ret ?_; refine sn_loop_ret ?_; refine sn_block_ret ?_; refine sn_then_ret ?_)
      refine sn_ret rfl (.tmp rfl .nil) (ent_keep 2 [] rfl rfl) ?_
      exact ⟨rfl, rfl⟩
  · refine sd_know 43 (.bool false) rfl (congrArg Value.bool (decide_eq_false he)) ?_
    ((iterate 9 refine sd_1 rfl (.inl rfl) ?_); refine sd_1 rfl (.inr rfl) ?_; (iterate 2 refine sd_1 rfl (.inl rfl) ?_))
    refine sd_nil ?_
    (refine sn_then ?_; refine sw_cond_f rfl ?_; refine sw_skip ?_; refine sn_block ?_; refine sn_then ?_; refine sw_region ?_; refine so_1 rfl ?_; refine so_2 rfl (by (unfold I64; omega)) ?_; refine so_1 rfl ?_; refine so_nil ?_)
    refine sn_round (k + 1) ⟨rfl, rfl, rfl, rfl, rfl, trivial⟩ (ent_keep 1 [] rfl rfl) ?_ ?_
    · show k + 1 ≤ i
      omega
    · show i - (k + 1) < i - k
      omega
end Go.Proofs.Ytahimopjohdkjaa
/- Blobs, part twenty-two: what a store that is filled by blobs under their digests is. Conditions: none. -/
namespace Go.Proofs.Ytahimopjohdkjaa
open Go.Eng Go.RowKit Go.WideMaps

theorem cb_zero : ∀ x y : List UInt8, ¬ Lib.compareBytes x y < 0 → ¬ Lib.compareBytes y x < 0 → x = y
  | [], [] => by simp
  | [], _ :: _ => by simp [Lib.compareBytes]
  | _ :: _, [] => by simp [Lib.compareBytes]
  | a :: x, b :: y => by
    have ih := cb_zero x y
    simp only [Lib.compareBytes, UInt8.lt_iff_toNat_lt]
    intro h1 h2
    by_cases h3 : a.toNat < b.toNat
    · rw [if_pos h3] at h1; omega
    · by_cases h4 : b.toNat < a.toNat
      · rw [if_pos h4] at h2; omega
      · rw [if_neg h3, if_neg h4] at h1
        rw [if_neg h4, if_neg h3] at h2
        have e : a = b := UInt8.toNat_inj.1 (by omega)
        rw [e, ih h1 h2]
theorem u8l_inj {x y : List Int} (hx : byteW x) (hy : byteW y) (h : u8l x = u8l y) : x = y := by
  induction x generalizing y with
  | nil => cases y with
    | nil => rfl
    | cons b y => simp [u8l] at h
  | cons a x ih => cases y with
    | nil => simp [u8l] at h
    | cons b y =>
      simp only [u8l, List.map_cons, List.cons.injEq] at h
      have h1 := hx a (by simp); have h2 := hy b (by simp)
      have h3 := congrArg UInt8.toNat h.1
      simp only [UInt8.toNat_ofNat'] at h3
      rw [ih (fun c hc => hx c (by simp [hc])) (fun c hc => hy c (by simp [hc])) h.2]
      congr 1; omega
theorem lt_of_le_ne {x y : List Int} (hx : byteW x) (hy : byteW y) (h : leM x y) (hne : x ≠ y) : cmpM x y < 0 :=
  Classical.byContradiction fun h2 => hne (u8l_inj hx hy (cb_zero _ _ h2 h))
theorem idOk_byte {a : List Int} (h : idOk a) : byteW a := fun x hx => (u8wf x).1 (h.2 x hx)

abbrev dg (xs : List Int) (w : Int) : List Int := cutR (sumM xs) w
def lenSum (l : List Kp) : Int := (l.map fun e => (e.b.length : Int)).sum
structure StI (w r u : Int) (l : List Kp) : Prop where
  nd : (l.map (·.id)).Nodup
  ids : ∀ e ∈ l, e.id = dg e.b w
  bw : ∀ e ∈ l, byteW e.b
  ln : ∀ e ∈ l, e.b.length ≤ 4100
  us : u = lenSum l
  ur : u ≤ r
theorem StI.nil (w : Int) {r : Int} (h : 0 ≤ r) : StI w r 0 [] := ⟨by simp, by simp, by simp, by simp, rfl, h⟩
theorem findK_mem {a : List Int} {l : List Kp} {e : Kp} (h : findK a l = some e) : e ∈ l ∧ e.id = a := by
  obtain ⟨l1, l2, rfl, h2, _⟩ := kF_perm h
  exact ⟨by simp, h2⟩
theorem findK_none {a : List Int} {l : List Kp} (h : findK a l = none) : ∀ e ∈ l, e.id ≠ a := by
  induction l with
  | nil => simp
  | cons x l ih =>
    simp only [findK] at h
    split at h
    · cases h
    · rename_i hx
      intro e he
      rcases List.mem_cons.1 he with rfl | he
      · exact hx
      · exact ih h e he
theorem findK_nd {l : List Kp} (h : (l.map (·.id)).Nodup) {e : Kp} (he : e ∈ l) : findK e.id l = some e := by
  induction l with
  | nil => simp at he
  | cons x l ih =>
    simp only [List.map_cons, List.nodup_cons] at h
    rcases List.mem_cons.1 he with rfl | he
    · rw [findK, if_pos rfl]
    · rw [findK, if_neg (show ¬ x.id = e.id from fun e1 => h.1 (by rw [e1]; exact List.mem_map_of_mem he))]
      exact ih h.2 he
theorem findK_app {a : List Int} {l : List Kp} {x : Kp} : findK a (l ++ [x]) = match findK a l with | some e => some e | none => if x.id = a then some x else none := by
  induction l with
  | nil => simp [findK]
  | cons y l ih =>
    simp only [List.cons_append, findK]
    split
    · rfl
    · exact ih
theorem lenSum_app (l1 l2 : List Kp) : lenSum (l1 ++ l2) = lenSum l1 + lenSum l2 := by simp [lenSum]
theorem lenSum_nn (l : List Kp) : 0 ≤ lenSum l := by
  induction l with
  | nil => exact Int.le_refl _
  | cons x l ih =>
    have : lenSum (x :: l) = (x.b.length : Int) + lenSum l := by simp [lenSum]
    omega
theorem lenSum_mem {l : List Kp} {e : Kp} (h : e ∈ l) : (e.b.length : Int) ≤ lenSum l := by
  obtain ⟨l1, l2, rfl⟩ := List.append_of_mem h
  have h1 := lenSum_nn l1; have h2 := lenSum_nn l2
  have : lenSum (e :: l2) = (e.b.length : Int) + lenSum l2 := by simp [lenSum]
  rw [lenSum_app, this]; omega
theorem StI.put {w r u : Int} {l : List Kp} (h : StI w r u l) {xs : List Int} {g : Nat} {v1 : Value} (hn : findK (dg xs w) l = none) (hx : byteW xs) (hlen : xs.length ≤ 4100) (hr : u + xs.length ≤ r) : StI w r (u + xs.length) (l ++ [⟨dg xs w, xs, g, v1⟩]) := by
  have hm : ∀ e ∈ l ++ [(⟨dg xs w, xs, g, v1⟩ : Kp)], e ∈ l ∨ e = ⟨dg xs w, xs, g, v1⟩ := fun e he => by simpa using he
  refine ⟨?_, fun e he => ?_, fun e he => ?_, fun e he => ?_, ?_, hr⟩
  · simp only [List.map_append, List.map_cons, List.map_nil]
    refine List.nodup_append.2 ⟨h.nd, by simp, fun a ha z hz => ?_⟩
    obtain ⟨e, he, rfl⟩ := List.mem_map.1 ha
    obtain rfl : z = dg xs w := by simpa using hz
    exact findK_none hn e he
  · rcases hm e he with he | rfl
    · exact h.ids e he
    · rfl
  · rcases hm e he with he | rfl
    · exact h.bw e he
    · exact hx
  · rcases hm e he with he | rfl
    · exact h.ln e he
    · exact hlen
  · rw [lenSum_app, ← h.us]; simp [lenSum]
theorem StI.drop {w r u : Int} {l : List Kp} (h : StI w r u l) {a : List Int} {e : Kp} (hf : findK a l = some e) : StI w r (u - e.b.length) (delK a l) := by
  obtain ⟨l1, l2, rfl, h2, h3, _⟩ := kF_perm hf
  rw [delK_split h3 h2]
  have hs : ∀ x ∈ l1 ++ l2, x ∈ l1 ++ e :: l2 := fun x hx => by
    rcases List.mem_append.1 hx with hx | hx
    · simp [hx]
    · simp [hx]
  have hu := h.us
  have hr := h.ur
  have e1 : lenSum (e :: l2) = (e.b.length : Int) + lenSum l2 := by simp [lenSum]
  rw [lenSum_app, e1] at hu
  refine ⟨?_, fun x hx => h.ids x (hs x hx), fun x hx => h.bw x (hs x hx), fun x hx => h.ln x (hs x hx), ?_, by omega⟩
  · have := h.nd
    simp only [List.map_append, List.map_cons] at this ⊢
    exact this.sublist (List.Sublist.append_left (List.sublist_cons_self _ _) _)
  · rw [lenSum_app]; omega
theorem findK_del {a c : List Int} {l : List Kp} (h : c ≠ a) : findK c (delK a l) = findK c l := by
  induction l with
  | nil => rfl
  | cons x l ih =>
    simp only [delK]
    split
    · rename_i hx
      rw [findK, if_neg (fun e => h (e.symm.trans hx))]
    · simp only [findK]
      split
      · rfl
      · exact ih
def lenAt (l : List Kp) (a : List Int) : Int := match findK a l with | some e => e.b.length | none => 0
theorem sum_perm {a b : List Int} (h : a.Perm b) : a.sum = b.sum := by
  induction h with
  | nil => rfl
  | cons x _ ih => simp [ih]
  | swap x y l => simp; omega
  | trans _ _ h1 h2 => exact h1.trans h2
theorem StI.sum {w r u : Int} {l : List Kp} (h : StI w r u l) {L : List (List Int)} (hL : L.Perm (l.map (·.id))) : (L.map (lenAt l)).sum = u := by
  rw [sum_perm (hL.map (lenAt l)), List.map_map, h.us, lenSum]
  congr 1
  refine List.map_congr_left fun e he => ?_
  simp only [Function.comp, lenAt, findK_nd h.nd he]
end Go.Proofs.Ytahimopjohdkjaa
/- Blobs, part twenty-three: what holds asks. Conditions: not too many. -/
namespace Go.Proofs.Ytahimopjohdkjaa
open Go.Eng Go.RowKit Go.WideMaps

abbrev rK (A : Option Addr) (c : Nat) (ks : List Bool) : SP := row t_bool 1 (.slice A ks.length c) ks.length (ks.map Value.bool)
def KI (w : Int) (xss : List (List Int)) (ks : List Bool) (l : List Kp) : Prop := ∀ m (h1 : m < xss.length), ks.getD m false = true → ∃ e, findK (dg xss[m] w) l = some e ∧ e.b = xss[m]
theorem lenAt_nn (l : List Kp) (a : List Int) : 0 ≤ lenAt l a := by unfold lenAt; split <;> omega
theorem sum_take (f : List Int → Int) {L : List (List Int)} {i : Nat} (hi : i < L.length) : ((L.take (i + 1)).map f).sum = ((L.take i).map f).sum + f (L.getD i []) := by
  rw [List.take_succ_eq_append_getElem hi, List.map_append, List.sum_append, List.getD_eq_getElem?_getD, List.getElem?_eq_getElem hi]; simp
theorem sum_nn (f : List Int → Int) (hf : ∀ a, 0 ≤ f a) (L : List (List Int)) : 0 ≤ (L.map f).sum := by
  induction L with
  | nil => exact Int.le_refl _
  | cons x L ih => have := hf x; simp only [List.map_cons, List.sum_cons]; omega
theorem sum_take_le (f : List Int → Int) (hf : ∀ a, 0 ≤ f a) (L : List (List Int)) (i : Nat) : ((L.take i).map f).sum ≤ (L.map f).sum := by
  have h := sum_nn f hf (L.drop i)
  conv => rhs; rw [← List.take_append_drop i L]
  rw [List.map_append, List.sum_append]; omega
section
variable {b : World} {F : List SP} {gs gm : Nat} {w r u : Int} {l : List Kp}
theorem noneP_S (h : Blk b gs t_blob_Store (stC w r u gm)) : SC Try.prog n_p_blob_Store_none [.pointer (some ⟨gs, 0, none⟩)] b [Is b] (fun v F' => v = .bool false ∧ F' = [Is b]) := by
  refine enterS F_p_blob_Store_none rfl rfl rfl ?_
  (refine sw_seq ?_; refine sw_region ?_; refine so_1 rfl ?_; refine so_nil ?_; refine sn_then ?_; refine sw_seq ?_; refine sw_region ?_; (iterate 6 refine so_1 rfl ?_))
  refine so_rd rfl (fun w H => ex_load rfl rfl rfl (blk_cell (k := 0) rfl h rfl w H)) rfl ?_
  ((iterate 3 refine so_1 rfl ?_); refine so_nil ?_; refine sn_then ?_; refine sw_ret ?_)
  refine sn_ret rfl (.tmp rfl .nil) (ent_keep 0 [] rfl rfl) ?_
  exact ⟨rfl, rfl⟩
theorem WidthP_S (h : Blk b gs t_blob_Store (stC w r u gm)) : SC Try.prog n_p_blob_Store_Width [.pointer (some ⟨gs, 0, none⟩)] b [Is b] (fun v F' => v = .int .i64 w ∧ F' = [Is b]) := by
  refine enterS F_p_blob_Store_Width rfl rfl rfl ?_
  (refine sw_seq ?_; refine sw_region ?_; refine so_1 rfl ?_; refine so_nil ?_; refine sn_then ?_; (iterate 2 refine sw_seq ?_); refine sw_region ?_; refine so_1 rfl ?_)
  refine so_callE rfl rfl rfl (noneP_S h) ?_
  (refine so_nil ?_; refine sn_then ?_; refine sw_cond_f rfl ?_; refine sw_skip ?_; refine sn_then ?_; refine sw_seq ?_; refine sw_region ?_; (iterate 3 refine so_1 rfl ?_))
  refine so_rd rfl (fun w H => ex_load rfl rfl rfl (blk_cell (k := 0) rfl h rfl w H)) rfl ?_
  (refine so_1 rfl ?_; refine so_nil ?_; refine sn_then ?_; refine sw_ret ?_)
  refine sn_ret rfl (.tmp rfl .nil) (ent_keep 0 [] rfl rfl) ?_
  exact ⟨rfl, rfl⟩
theorem bool_cell {A : Option Addr} {c k : Nat} {ks : List Bool} {bk off : Nat} (hk : nth F k = some (rK A c ks)) (hA : A = some ⟨bk, off, none⟩) (i : Nat) (hi : i < ks.length) : ∀ w, Sat b F w → w.cell? ⟨bk, off + i, none⟩ = some (.bool (ks.getD i false)) := fun w H => by
  subst hA
  have hv : VL Value.bool w (.slice (some ⟨bk, off, none⟩) ks.length c) ks := (H.oat hk).sl
  rw [VL.at hv i hi, List.getD_eq_getElem?_getD, List.getElem?_eq_getElem hi]; rfl
set_option maxHeartbeats 2000000 in
theorem holds_S {v : Value} {xss : List (List Int)} {ks : List Bool} {A : Option Addr} {c : Nat} (hst : StI w r u l) (hw : 1 ≤ w ∧ w ≤ 32) (hr : r ≤ 67108864) (h0 : LB b v xss) (hF : nth F 0 = some (Is b)) (hks : ks.length = xss.length) (hn : xss.length ≤ 30) (hlen : ∀ i (hi : i < xss.length), (xss[i].length : Int) ≤ 40) (hk : KI w xss ks l) (hll : l.length ≤ 100000) :
    SC Try.prog n_entrepotlaw08_holds [.pointer (some ⟨gs, 0, none⟩), v, .slice A ks.length c] b (rK A c ks :: stB gs gm w r u l F) (fun x F' => x = .bool true ∧ F' = rK A c ks :: stB gs gm w r u l F) := by
  obtain ⟨A0, c0, rfl, f1, f2, f3⟩ := h0.get
  have hE : cutE w = 0 := by rw [cutE, if_neg (by omega)]
  have hidK : ∀ e ∈ l, idOk e.id := fun e he => by rw [hst.ids e he]; exact idOk_cut _ _
  have hu0 : 0 ≤ u := by rw [hst.us]; exact lenSum_nn l
  have hur := hst.ur
  refine enterS F_entrepotlaw08_holds rfl rfl rfl ?_
  refine sw_fact (fun w H => (H.oat (k := 0) rfl).form) ?_
  rintro ⟨A', c', hv, k1, k2, k3⟩
  cases hv
  (refine sw_seq ?_; refine sw_region ?_; refine so_1 rfl ?_; refine so_nil ?_; refine sn_then ?_; (iterate 2 refine sw_seq ?_); refine sw_region ?_; refine so_1 rfl ?_; refine so_nil ?_; refine sn_then ?_; refine sw_block ?_)
  refine sw_loop (S := Nat) (fun i => [(0, .pointer (some ⟨gs, 0, none⟩)), (1, .slice A0 xss.length c0), (2, .slice A ks.length c), (7, .int .i64 (i : Int))]) (fun _ => rK A c ks :: stB gs gm w r u l F) (fun i => i ≤ xss.length) (fun i => xss.length - i) 0 ⟨rfl, rfl, rfl, rfl, trivial⟩ (Ent.refl _) (Nat.zero_le _) ?_
  intro i hi
  ((iterate 2 refine sw_seq ?_); refine sw_region ?_; (iterate 4 refine so_1 rfl ?_); refine so_nil ?_; refine sn_then ?_)
  refine sw_if rfl (fun h1 => ?_) (fun h1 => ?_)
  · have h1' : i < xss.length := by omega
    obtain ⟨bk, off, uu, rfl, g1, g2, g3, g4⟩ := f3 i h1'
    have hli := hlen i h1'
    have hOf : ∀ {b : World} {F : List SP}, (∀ w, Sat b F w → VL (Value.int .u8) w uu xss[i]) → SC Try.prog n_sha_Of [uu, .int .i64 w] b F (fun v F' => v = .tuple ⟨[idV (cutR (sumM xss[i]) w), .int .i64 (cutE w)]⟩ ∧ F' = F) := fun h => Of_S (by omega) h
    have hid := idOk_cut xss[i] w
    have hki : ks.getD i false = true → ∃ e, findK (cutR (sumM xss[i]) w) l = some e ∧ e.b = xss[i] := hk i h1'
    generalize cutR (sumM xss[i]) w = id at *
    (refine sw_skip ?_; refine sn_then ?_; refine sw_seq ?_; refine sw_block ?_; refine sw_seq ?_)
    refine sw_freeC 11 [9] (fl := flo) [] [(0, .pointer (some ⟨gs, 0, none⟩)), (1, .slice (some ⟨bk, off, none⟩) xss.length c0), (2, .slice A ks.length c), (7, .int .i64 (i : Int))] ⟨rfl, rfl, rfl, rfl, trivial⟩ rfl (by kernel_rfl) (by kernel_rfl) (by decide) ?_
    ((iterate 2 refine fc_p (fun _ => rfl) ?_); refine fc_c (fun _ => rfl) (by omega) ?_)
    refine fc_ex rfl (fun vs w H => ex_load rfl rfl rfl (by rw [mulz_eq, Nat.mul_one]; exact is_cell (k := 4) hF g1 g2 w H)) ?_
    (refine fc_p (fun _ => rfl) ?_)
    refine fc_call rfl (fun _ => rfl) (fun w H => SC.pure (WidthP_S (H.blk (k := 1) rfl))) ?_
    skip
    refine fc_call rfl (fun _ => rfl) (fun w H => SC.pure (hOf fun w' H' => (is_vl g3 (k := 4) hF w H).ext (H'.is (k := 0) rfl))) ?_
    ((iterate 3 refine fc_p (fun _ => rfl) ?_); refine fc_new rfl rfl rfl rfl ?_)
    refine .done rfl fun gg => ⟨ent_nil _, ?_⟩
    skip
    refine sd_stW 0 rfl rfl rfl rfl rfl rfl rfl rfl (by rw [u8s_len, hid.1]; rfl) (u8s_one _) (by simp [hid.1]) (ent_nil _) ?_
    (refine sd_1 rfl (.inl rfl) ?_)
    refine sd_nil ?_
    (refine sn_then ?_; refine sw_seq ?_; refine sw_region ?_)
    refine so_sub (E' := [(0, .pointer (some ⟨gs, 0, none⟩)), (1, .slice (some ⟨bk, off, none⟩) xss.length c0), (2, .slice A ks.length c), (7, .int .i64 (i : Int)), (8, .pointer (some ⟨gg 10, 0, none⟩))]) ⟨rfl, rfl, rfl, rfl, rfl, trivial⟩ ?_
    generalize gg 10 = g8
    have hkr : ∃ bk2 off2, A = some ⟨bk2, off2, none⟩ := k3 (by omega)
    obtain ⟨bk2, off2, rfl⟩ := hkr
    (refine so_1 rfl ?_)
    refine so_ldA 0 rfl rfl rfl rfl rfl rfl (segID hid.1) rfl ?_
    cases hfd : findK id l with
    | none =>
      have hkf : ks.getD i false = false := by
        cases hb : ks.getD i false with
        | false => rfl
        | true => obtain ⟨e, he, _⟩ := hki hb; rw [hfd] at he; cases he
      refine so_callE rfl rfl rfl ((Get_none (F := pt g8 t_api_ID (u8s id) :: rK (some ⟨bk2, off2, none⟩) c ks :: F) hid hfd).at (ent_keep 5 [2, 3, 4, 0, 1] rfl rfl) (ent_keep 5 [3, 4, 0, 1, 2] rfl rfl)) ?_
      ((iterate 5 refine so_1 rfl ?_); refine so_nil ?_; refine sn_then ?_; refine sw_seq ?_; refine sw_region ?_; (iterate 2 refine so_1 rfl ?_); refine so_2 rfl (by omega) ?_)
      refine so_rd rfl (fun w H => ex_load rfl rfl rfl (by rw [mulz_eq, Nat.mul_one]; exact bool_cell (k := 1) rfl rfl i (by omega) w H)) rfl ?_
      rw [hkf]
      ((iterate 13 refine so_1 rfl ?_); refine so_nil ?_; refine sn_then ?_; refine sw_cond_f rfl ?_; refine sw_skip ?_; refine sn_block ?_; refine sn_then ?_; refine sw_region ?_; refine so_1 rfl ?_; refine so_2 rfl (by (unfold I64; omega)) ?_; refine so_1 rfl ?_; refine so_nil ?_)
      refine sn_round (i + 1) ⟨rfl, rfl, rfl, rfl, trivial⟩ (ent_keep 1 [] rfl rfl) ?_ ?_
      · show i + 1 ≤ xss.length
        omega
      · show xss.length - (i + 1) < xss.length - i
        omega
    | some e =>
      have he := findK_mem hfd
      have hel := hst.ln e he.1
      refine so_call rfl rfl rfl ((Get_some (F := pt g8 t_api_ID (u8s id) :: rK (some ⟨bk2, off2, none⟩) c ks :: F) hid hfd (by omega)).ent (ent_keep 5 [2, 3, 4, 0, 1] rfl rfl)) ?_
      rintro _ _ ⟨v2, rfl, rfl⟩
      ((iterate 5 refine so_1 rfl ?_); refine so_nil ?_; refine sn_then ?_; refine sw_seq ?_; refine sw_region ?_; (iterate 2 refine so_1 rfl ?_); refine so_2 rfl (by omega) ?_)
      refine so_rd rfl (fun w H => ex_load rfl rfl rfl (by rw [mulz_eq, Nat.mul_one]; exact bool_cell (k := 5) rfl rfl i (by omega) w H)) rfl ?_
      cases hb : ks.getD i false with
      | false =>
        ((iterate 13 refine so_1 rfl ?_); refine so_nil ?_; refine sn_then ?_; refine sw_cond_f rfl ?_; refine sw_skip ?_; refine sn_block ?_; refine sn_then ?_; refine sw_region ?_; refine so_1 rfl ?_; refine so_2 rfl (by (unfold I64; omega)) ?_; refine so_1 rfl ?_; refine so_nil ?_)
        refine sn_round (i + 1) ⟨rfl, rfl, rfl, rfl, trivial⟩ (ent_keep 6 [5, 1, 2, 3] rfl rfl) ?_ ?_
        · show i + 1 ≤ xss.length
          omega
        · show xss.length - (i + 1) < xss.length - i
          omega
      | true =>
        obtain ⟨e', he', hbe⟩ := hki hb
        obtain rfl : e' = e := Option.some.inj (he'.symm.trans hfd)
        ((iterate 7 refine so_1 rfl ?_); refine so_2 rfl (by omega) ?_)
        refine so_rd rfl (fun w H => ex_load rfl rfl rfl (by rw [mulz_eq, Nat.mul_one]; exact is_cell (k := 6) hF g1 g2 w H)) rfl ?_
        refine so_callE rfl rfl rfl (SameBytes_S (vlB (k := 0) rfl) (is_vl g3 (k := 6) hF) (hst.bw _ he.1) g4) ?_
        ((iterate 3 refine so_1 rfl ?_); refine so_nil ?_; refine sn_then ?_)
        refine sw_know 59 (.bool false) rfl (by simp [hbe]) ?_
        (refine sw_cond_f rfl ?_; refine sw_skip ?_; refine sn_block ?_; refine sn_then ?_; refine sw_region ?_; refine so_1 rfl ?_; refine so_2 rfl (by (unfold I64; omega)) ?_; refine so_1 rfl ?_; refine so_nil ?_)
        refine sn_round (i + 1) ⟨rfl, rfl, rfl, rfl, trivial⟩ (ent_keep 6 [5, 1, 2, 3] rfl rfl) ?_ ?_
        · show i + 1 ≤ xss.length
          omega
        · show xss.length - (i + 1) < xss.length - i
          omega
  · (refine sw_exit ?_; refine sn_then_exit ?_; refine sn_loop_exit ?_; refine sn_block_exit ?_; refine sn_then ?_; refine sw_seq ?_; refine sw_region ?_; refine so_1 rfl ?_)
    refine so_call rfl rfl rfl ((IDs_S (F := rK A c ks :: F) hidK hll).ent (ent_keep 4 [1, 2, 3, 0] rfl rfl)) ?_
    rintro _ _ ⟨AL, cL, L, rfl, hpw, hperm, rfl⟩
    have hsum := hst.sum hperm
    have hmem : ∀ a ∈ L, ∃ e ∈ l, e.id = a := fun a ha => List.mem_map.1 (hperm.subset ha)
    have hL32 : len32 L := fun a ha => by obtain ⟨e, he, rfl⟩ := hmem a ha; exact (hidK e he).1
    have hLb : ∀ a ∈ L, byteW a := fun a ha => by obtain ⟨e, he, rfl⟩ := hmem a ha; exact idOk_byte (hidK e he)
    have hLn : L.Nodup := hperm.nodup_iff.2 hst.nd
    have hLl : L.length = l.length := by have := hperm.length_eq; simpa using this
    refine so_fact (fun w H => (H.oat (k := 0) rfl).form) ?_
    rintro ⟨A'', c'', hv, n1, n2, n3⟩
    cases hv
    clear f3 h0
    (refine so_1 rfl ?_; refine so_nil ?_; refine sn_then ?_; refine sw_seq ?_; refine sw_region ?_; refine so_1 rfl ?_; refine so_nil ?_; refine sn_then ?_; (iterate 2 refine sw_seq ?_); refine sw_region ?_; refine so_1 rfl ?_; refine so_nil ?_; refine sn_then ?_; refine sw_block ?_)
    refine sw_loop (S := Nat) (fun i => [(0, .pointer (some ⟨gs, 0, none⟩)), (12, .slice AL L.length cL), (13, .int .i64 (((L.take i).map (lenAt l)).sum)), (14, .int .i64 (i : Int))]) (fun _ => rN AL cL L.length L :: stB gs gm w r u l (rK A c ks :: F)) (fun i => i ≤ L.length) (fun i => L.length - i) 0 ⟨rfl, rfl, rfl, rfl, trivial⟩ (Ent.refl _) (Nat.zero_le _) ?_
    intro j hj
    have hs0 := sum_nn (lenAt l) (lenAt_nn l) (L.take j)
    have hs1 := sum_take_le (lenAt l) (lenAt_nn l) L j
    ((iterate 2 refine sw_seq ?_); refine sw_region ?_; (iterate 4 refine so_1 rfl ?_); refine so_nil ?_; refine sn_then ?_)
    refine sw_if rfl (fun h2 => ?_) (fun h2 => ?_)
    · have h2' : j < L.length := by omega
      obtain ⟨gL, oL, rfl⟩ := n3 (by omega)
      have hs2 := sum_take (lenAt l) h2'
      have hs3 := sum_take_le (lenAt l) (lenAt_nn l) L (j + 1)
      have haL : L.getD j [] ∈ L := by rw [List.getD_eq_getElem?_getD, List.getElem?_eq_getElem h2']; exact List.getElem_mem h2'
      obtain ⟨e, he, hea⟩ := hmem _ haL
      have sj := idsC_seg hL32 h2'
      have hal := hL32 _ haL
      have haI : idOk (L.getD j []) := hea ▸ hidK e he
      have hfd : findK (L.getD j []) l = some e := by rw [← hea]; exact findK_nd hst.nd he
      have hl1 : lenAt l (L.getD j []) = e.b.length := by simp only [lenAt, hfd]
      have hdg : cutR (sumM e.b) w = L.getD j [] := by rw [← hea]; exact (hst.ids e he).symm
      have hprev : 0 < j → cmpM (L.getD (j - 1) []) (L.getD j []) < 0 := fun hj0 => by
        have h3 : j - 1 < L.length := by omega
        have e1 : L.getD (j - 1) [] = L[j - 1] := by rw [List.getD_eq_getElem?_getD, List.getElem?_eq_getElem h3]; rfl
        have e2 : L.getD j [] = L[j] := by rw [List.getD_eq_getElem?_getD, List.getElem?_eq_getElem h2']; rfl
        rw [e1, e2]
        refine lt_of_le_ne (hLb _ (List.getElem_mem h3)) (hLb _ (List.getElem_mem h2')) (List.pairwise_iff_getElem.1 hpw _ _ h3 h2' (by omega)) fun h4 => ?_
        have := (List.getElem_inj (h₀ := h3) (h₁ := h2') hLn).1 h4
        omega
      have sj' : 0 < j → ((idsC L).drop ((j - 1) * 32)).take 32 = u8s (L.getD (j - 1) []) ∧ (L.getD (j - 1) []).length = 32 := fun hj0 => ⟨idsC_seg hL32 (by omega), len32_get hL32 (by omega)⟩
      have hel := hst.ln e he
      rw [hl1] at hs2
      generalize L.getD (j - 1) [] = a' at *
      generalize L.getD j [] = a at *
      (refine sw_skip ?_; refine sn_then ?_; refine sw_seq ?_; refine sw_block ?_; refine sw_seq ?_; refine sw_region ?_; (iterate 3 refine so_1 rfl ?_); refine so_2 rfl (by omega) ?_)
      refine so_ldrow 0 (j * 32) rfl rfl rfl rfl rfl rfl rfl (by rw [mulz_eq, Int.toNat_natCast]) (by omega) sj (by rw [u8s_len, hal]; rfl) ?_
      refine so_call rfl rfl rfl ((Get_some (F := rN (some ⟨gL, oL, none⟩) cL L.length L :: rK A c ks :: F) haI hfd (by omega)).ent (ent_keep 5 [1, 2, 3, 0, 4] rfl rfl)) ?_
      rintro _ _ ⟨v2, rfl, rfl⟩
      refine so_fact (fun w H => (H.oat (k := 0) rfl).form) ?_
      rintro ⟨A7, c7, rfl, m1, m2, m3⟩
      ((iterate 5 refine so_1 rfl ?_); refine so_nil ?_; refine sn_then ?_; refine sw_seq ?_; refine sw_region ?_; (iterate 3 refine so_1 rfl ?_); refine so_2 rfl (by omega) ?_)
      refine so_ldrow 4 (j * 32) rfl rfl rfl rfl rfl rfl rfl (by rw [mulz_eq, Int.toNat_natCast]) (by omega) sj (by rw [u8s_len, hal]; rfl) ?_
      refine so_callE rfl rfl rfl ((Size_some (F := rB (.slice A7 e.b.length c7) e.b :: rN (some ⟨gL, oL, none⟩) cL L.length L :: rK A c ks :: F) haI hfd (by omega)).at (ent_keep 6 [1, 2, 3, 0, 4, 5] rfl rfl) (ent_keep 6 [3, 0, 1, 2, 4, 5] rfl rfl)) ?_
      ((iterate 5 refine so_1 rfl ?_); refine so_nil ?_; refine sn_then ?_; refine sw_seq ?_; refine sw_region ?_; (iterate 2 refine so_1 rfl ?_))
      refine so_callE rfl rfl rfl ((Width_S (F := rB (.slice A7 e.b.length c7) e.b :: rN (some ⟨gL, oL, none⟩) cL L.length L :: rK A c ks :: F)).at (ent_keep 6 [1, 2, 3, 0, 4, 5] rfl rfl) (ent_keep 6 [3, 0, 1, 2, 4, 5] rfl rfl)) ?_
      skip
      refine so_callE rfl rfl rfl (Of_S (by omega) (vlB (k := 0) rfl)) ?_
      rw [hdg, hE]
      ((iterate 3 refine so_1 rfl ?_))
      refine so_new rfl rfl rfl rfl rfl fun g19 => ?_
      refine so_stW 0 rfl rfl rfl rfl rfl rfl rfl (by rw [u8s_len, hal]; rfl) (u8s_one _) (by simp [hal]) ?_
      (refine so_1 rfl ?_; refine so_nil ?_; refine sn_then ?_; (iterate 2 refine sw_seq ?_))
      refine sw_draw flo (pt g19 t_api_ID (u8s a) :: rB (.slice A7 e.b.length c7) e.b :: stB gs gm w r u l (rN (some ⟨gL, oL, none⟩) cL L.length L :: rK A c ks :: F)) (by decide +kernel) (Ent.refl _) ?_
      ((iterate 13 refine sd_1 rfl (.inl rfl) ?_))
      refine sd_know 105 (.bool false) rfl (by simp) ?_
      ((iterate 4 refine sd_1 rfl (.inl rfl) ?_))
      refine sd_ldA 0 rfl rfl rfl rfl rfl rfl (segID hal) rfl rfl ?_
      ((iterate 2 refine sd_1 rfl (.inl rfl) ?_); refine sd_2 rfl rfl (by omega) ?_)
      refine sd_ldrow 5 (j * 32) rfl rfl rfl rfl rfl rfl rfl rfl (by rw [mulz_eq, Int.toNat_natCast]) (by omega) sj (by rw [u8s_len, hal]; rfl) ?_
      refine sd_pu rfl (pu_neI (as00 := a) (bs := a) rfl rfl hal hal) rfl rfl ?_
      refine sd_know 115 (.bool false) rfl (by simp) ?_
      ((iterate 5 refine sd_1 rfl (.inl rfl) ?_))
      by_cases hj0 : 0 < j
      · refine sd_know 120 (.bool true) rfl (by simp; omega) ?_
        obtain ⟨sp, hap⟩ := sj' hj0
        have hcp := hprev hj0
        have hN : ((j : Int) - 1).toNat = j - 1 := by omega
        ((iterate 2 refine sd_1 rfl (.inl rfl) ?_); refine sd_2 rfl rfl (by (unfold I64; omega)) ?_; refine sd_2 rfl rfl (by omega) ?_)
        refine sd_ldrow 5 ((j - 1) * 32) rfl rfl rfl rfl rfl rfl rfl rfl (by rw [mulz_eq, hN]) (by omega) sp (by rw [u8s_len, hap]; rfl) ?_
        ((iterate 2 refine sd_1 rfl (.inl rfl) ?_); refine sd_2 rfl rfl (by omega) ?_)
        refine sd_ldrow 5 (j * 32) rfl rfl rfl rfl rfl rfl rfl rfl (by rw [mulz_eq, Int.toNat_natCast]) (by omega) sj (by rw [u8s_len, hal]; rfl) ?_
        refine sd_callE rfl rfl rfl rfl (Compare_S hap hal) (Ent.refl _) ?_
        ((iterate 3 refine sd_1 rfl (.inl rfl) ?_))
        refine sd_know 133 (.bool false) rfl (by simp; omega) ?_
        refine sd_nil ?_
        (refine sn_then ?_; refine sw_cond_f rfl ?_; refine sw_skip ?_; refine sn_then ?_; refine sw_region ?_; (iterate 2 refine so_1 rfl ?_); refine so_2 rfl (by (unfold I64; omega)) ?_; refine so_1 rfl ?_; refine so_nil ?_; refine sn_block ?_; refine sn_then ?_; refine sw_region ?_; refine so_1 rfl ?_; refine so_2 rfl (by (unfold I64; omega)) ?_; refine so_1 rfl ?_; refine so_nil ?_)
        refine sn_round (j + 1) ⟨rfl, rfl, by rw [hs2]; rfl, rfl, trivial⟩ (ent_keep 6 [5, 2, 3, 4] rfl rfl) ?_ ?_
        · show j + 1 ≤ L.length
          omega
        · show L.length - (j + 1) < L.length - j
          omega
      · refine sd_know 120 (.bool false) rfl (by simp; omega) ?_
        ((iterate 9 refine sd_1 rfl (.inl rfl) ?_); refine sd_1 rfl (.inr rfl) ?_; (iterate 3 refine sd_1 rfl (.inl rfl) ?_))
        refine sd_nil ?_
        (refine sn_then ?_; refine sw_cond_f rfl ?_; refine sw_skip ?_; refine sn_then ?_; refine sw_region ?_; (iterate 2 refine so_1 rfl ?_); refine so_2 rfl (by (unfold I64; omega)) ?_; refine so_1 rfl ?_; refine so_nil ?_; refine sn_block ?_; refine sn_then ?_; refine sw_region ?_; refine so_1 rfl ?_; refine so_2 rfl (by (unfold I64; omega)) ?_; refine so_1 rfl ?_; refine so_nil ?_)
        refine sn_round (j + 1) ⟨rfl, rfl, by rw [hs2]; rfl, rfl, trivial⟩ (ent_keep 6 [5, 2, 3, 4] rfl rfl) ?_ ?_
        · show j + 1 ≤ L.length
          omega
        · show L.length - (j + 1) < L.length - j
          omega
    · (refine sw_exit ?_; refine sn_then_exit ?_; refine sn_loop_exit ?_; refine sn_block_exit ?_; refine sn_then ?_; refine sw_seq ?_; refine sw_region ?_; (iterate 2 refine so_1 rfl ?_))
      obtain rfl : j = L.length := by omega
      rw [List.take_length, hsum] at *
      skip
      refine so_ent (ent_keep 1 [] rfl rfl) ?_
      refine so_callE rfl rfl rfl (Used_S) ?_
      ((iterate 2 refine so_1 rfl ?_))
      refine so_know 141 (.bool true) rfl (by simp) ?_
      ((iterate 2 refine so_1 rfl ?_))
      refine so_callE rfl rfl rfl (Room_S) ?_
      ((iterate 3 refine so_1 rfl ?_); refine so_nil ?_; refine sn_then ?_; refine sw_ret ?_)
      refine sn_ret rfl (.tmp rfl .nil) (ent_keep 4 [3, 0, 1, 2] rfl rfl) ?_
      exact ⟨by simp [tupl]; omega, rfl⟩
end
end Go.Proofs.Ytahimopjohdkjaa
/- Blobs, part twenty-four: Put and Drop of a store that is filled by blobs under their digests. Conditions: not too many bytes. -/
namespace Go.Proofs.Ytahimopjohdkjaa
open Go.Eng Go.RowKit Go.WideMaps

structure PutI (w r u : Int) (l : List Kp) (xs : List Int) (is : Bool) (e u' : Int) (l' : List Kp) : Prop where
  st : StI w r u' l'
  ln : l'.length ≤ l.length + 1
  keep : ∀ a c, findK a l = some c → findK a l' = some c
  ok : e = 0 → ∃ c, findK (dg xs w) l' = some c ∧ c.b = xs
  how : (is = true ∧ e = 0 ∧ u' = u + xs.length) ∨ (is = false ∧ u' = u ∧ (e = 0 ∨ e = 9 ∨ e = 10))
section
variable {b : World} {F : List SP} {gs gm : Nat} {w r u : Int} {l : List Kp}
theorem putAny_S {vb : Value} {xs : List Int} (hst : StI w r u l) (hr : r ≤ 67108864) (hb : ∀ w, Sat b F w → VL (Value.int .u8) w vb xs) (hx : byteW xs) (hlen : xs.length ≤ 4096) :
    SC Try.prog n_p_blob_Store_Put [.pointer (some ⟨gs, 0, none⟩), idV (dg xs w), vb] b (stB gs gm w r u l F) (fun v F' => ∃ is e u' l', v = .tuple ⟨[.bool is, .int .i64 e]⟩ ∧ F' = stB gs gm w r u' l' F ∧ PutI w r u l xs is e u' l') := by
  have hid := idOk_cut xs w
  have hu0 : 0 ≤ u := by rw [hst.us]; exact lenSum_nn l
  have hur := hst.ur
  cases hfd : findK (dg xs w) l with
  | none =>
    refine (Put_none hb (by omega) hid hfd (by omega)).mono fun v F' h => ?_
    by_cases hf : r < u + xs.length
    · have e0 : putE0 (dg xs w) xs w r u = 10 := by rw [putE0, if_neg (by omega), if_pos rfl, if_pos hf]
      rw [e0, if_neg (by omega)] at h
      exact ⟨false, 10, u, l, h.1, h.2, hst, by omega, fun _ _ h => h, fun h => by omega, .inr ⟨rfl, rfl, .inr (.inr rfl)⟩⟩
    · have e0 : putE0 (dg xs w) xs w r u = 0 := by rw [putE0, if_neg (by omega), if_pos rfl, if_neg hf]
      rw [if_pos e0] at h
      obtain ⟨h1, g, v1, h2⟩ := h
      refine ⟨true, 0, _, _, h1, h2, hst.put hfd hx (by omega) (by omega), by simp, fun a c hc => by rw [findK_app, hc], fun _ => ⟨⟨dg xs w, xs, g, v1⟩, ?_, rfl⟩, .inl ⟨rfl, rfl, rfl⟩⟩
      rw [findK_app, hfd]; simp
  | some e =>
    have he := findK_mem hfd
    refine (Put_some hb (by omega) hid hfd hx (hst.bw e he.1)).mono fun v F' h => ?_
    by_cases hf : e.b = xs
    · have e0 : putE1 (dg xs w) xs e w = 0 := by rw [putE1, if_neg (by omega), if_pos rfl, if_pos hf]
      rw [e0] at h
      exact ⟨false, 0, u, l, h.1, h.2, hst, by omega, fun _ _ h => h, fun _ => ⟨e, hfd, hf⟩, .inr ⟨rfl, rfl, .inl rfl⟩⟩
    · have e0 : putE1 (dg xs w) xs e w = 9 := by rw [putE1, if_neg (by omega), if_pos rfl, if_neg hf]
      rw [e0] at h
      exact ⟨false, 9, u, l, h.1, h.2, hst, by omega, fun _ _ h => h, fun h => by omega, .inr ⟨rfl, rfl, .inr (.inl rfl)⟩⟩
theorem dropAny_S {id : List Int} (hst : StI w r u l) (hr : r ≤ 67108864) (hid : idOk id) :
    SC Try.prog n_p_blob_Store_Drop [.pointer (some ⟨gs, 0, none⟩), idV id] b (stB gs gm w r u l F) (fun v F' => ∃ is u' l', v = .bool is ∧ F' = stB gs gm w r u' l' F ∧ StI w r u' l' ∧ l'.length ≤ l.length ∧ ∀ a, a ≠ id → findK a l' = findK a l) := by
  have hur := hst.ur
  cases hfd : findK id l with
  | none => exact (Drop_none hid hfd).mono fun v F' h => ⟨false, u, l, h.1, h.2, hst, Nat.le_refl _, fun _ _ => rfl⟩
  | some e =>
    have he := findK_mem hfd
    have hel := hst.ln e he.1
    have hle := lenSum_mem he.1
    refine (Drop_some hid hfd (by omega) (by rw [hst.us]; exact hle) (by omega)).mono fun v F' h => ⟨true, _, _, h.1, h.2, hst.drop hfd, ?_, fun a ha => findK_del ha⟩
    obtain ⟨l1, l2, rfl, h2, h3, _⟩ := kF_perm hfd
    rw [delK_split h3 h2]; simp
theorem bool_set {ks : List Bool} {i : Nat} (x : Bool) (hi : i < ks.length) : spl (ks.map Value.bool) i [.bool x] = (ks.set i x).map Value.bool := by
  simp only [spl, List.map_set]
  rw [List.set_eq_take_append_cons_drop, if_pos (by simpa using hi)]
  simp
end
end Go.Proofs.Ytahimopjohdkjaa
/- Blobs, part twenty-five: BlobHolds. Conditions: none. -/
namespace Go.Proofs.Ytahimopjohdkjaa
open Go.Eng Go.RowKit Go.WideMaps

theorem vl_cell {α : Type} {f : α → Value} {b : World} {F : List SP} {k : Nat} {A : Option Addr} {n c : Nat} {xs : List α} (hk : nth F k = some (Is b)) (h : VL f b (.slice A n c) xs) (i : Nat) (hi : i < xs.length) : ∃ bk off, A = some ⟨bk, off, none⟩ ∧ ∀ w, Sat b F w → w.cell? ⟨bk, off + i, none⟩ = some (f xs[i]) := by
  obtain ⟨A', c', hv, _, _, _, hc⟩ := h.op
  simp only [Value.slice.injEq] at hv
  obtain ⟨rfl, rfl, rfl⟩ := hv
  obtain ⟨bk, off, rfl, hb, hcell⟩ := hc i hi
  exact ⟨bk, off, rfl, is_cell hk hb (hcell i hi)⟩
abbrev rG (gk n : Nat) (ks : List Bool) : SP := row t_bool 1 (.slice (some ⟨gk, 0, none⟩) n n) n (ks.map Value.bool)
theorem rG_cell {b : World} {F : List SP} {k gk n : Nat} {ks : List Bool} (hk : nth F k = some (rG gk n ks)) (hn : ks.length = n) (i : Nat) (hi : i < n) : ∀ w, Sat b F w → w.cell? ⟨gk, 0 + i, none⟩ = some (.bool (ks.getD i false)) := fun w H => by
  subst hn
  have hv : VL Value.bool w (.slice (some ⟨gk, 0, none⟩) ks.length ks.length) ks := (H.oat hk).sl
  rw [VL.at hv i hi, List.getD_eq_getElem?_getD, List.getElem?_eq_getElem hi]; rfl
theorem set_getD (ks : List Bool) (i p : Nat) (x : Bool) (hi : i < ks.length) : (ks.set i x).getD p false = if p = i then x else ks.getD p false := by
  simp only [List.getD_eq_getElem?_getD, List.getElem?_set]
  by_cases hp : i = p
  · subst hp; rw [if_pos rfl, if_pos hi, if_pos rfl]; rfl
  · rw [if_neg hp, if_neg (fun h => hp h.symm)]
set_option maxHeartbeats 4000000 in
theorem walk_BlobHolds {W : World} {v2 v3 : Value} {xss : List (List Int)} {dr : List Int} {width room : Int} (h2 : LB W v2 xss) (h3 : VL (Value.int .i64) W v3 dr) : Calls Try.prog n_entrepotlaw08_BlobHolds #[.int .i64 width, .int .i64 room, v2, v3] W (fun e w' => e = .returned (.bool true) ∧ Ext W w') := by
  refine law_of (args := [.int .i64 width, .int .i64 room, v2, v3]) ?_
  obtain ⟨A, c, rfl, f1, f2, f3⟩ := h2.get
  obtain ⟨A3, c3, rfl, q1, q2, q3, q4⟩ := h3.form
  refine enterS F_entrepotlaw08_BlobHolds rfl rfl rfl ?_
  (refine sw_seq ?_; refine sw_region ?_; refine so_1 rfl ?_; refine so_nil ?_; refine sn_then ?_; refine sw_seq ?_; refine sw_region ?_)
  refine so_callE rfl rfl rfl (BlobKnown_S) ?_
  (refine so_1 rfl ?_; refine so_nil ?_; refine sn_then ?_; (iterate 2 refine sw_seq ?_); refine sw_region ?_; refine so_1 rfl ?_)
  refine so_call rfl rfl rfl (LongLists_S h2 rfl (by unfold I64; omega) (by unfold I64; omega)) ?_
  rintro _ _ ⟨r, hr, rfl, rfl⟩
  cases r
  rotate_left
  · ((iterate 5 refine so_1 rfl ?_); refine so_nil ?_; refine sn_then ?_; refine sw_cond_t rfl ?_; refine sw_seq ?_; refine sw_region ?_; (iterate 2 refine so_1 rfl ?_); refine so_nil ?_; refine sn_then ?_; refine sw_ret ?_; refine sn_then_ret ?_)
    refine sn_ret rfl (.tmp rfl .nil) (Ent.refl _) ?_
    exact ⟨rfl, rfl⟩
  obtain ⟨hr1, hr2⟩ := hr rfl
  have hlen : ∀ i (hi : i < xss.length), (xss[i].length : Int) ≤ 40 := fun i hi => hr2 _ (List.getElem_mem hi)
  ((iterate 5 refine so_1 rfl ?_); refine so_nil ?_; refine sn_then ?_)
  refine sw_if rfl (fun h1 => ?_) (fun h1 => ?_)
  · (refine sw_seq ?_; refine sw_region ?_; (iterate 2 refine so_1 rfl ?_); refine so_nil ?_; refine sn_then ?_; refine sw_ret ?_; refine sn_then_ret ?_)
    refine sn_ret rfl (.tmp rfl .nil) (Ent.refl _) ?_
    exact ⟨rfl, rfl⟩
  have w0 := Int.emod_nonneg width (by omega : (32 : Int) ≠ 0)
  have w1 := Int.emod_lt_of_pos width (by omega : (0 : Int) < 32)
  have r0 := Int.emod_nonneg room (by omega : (501 : Int) ≠ 0)
  have r1 := Int.emod_lt_of_pos room (by omega : (0 : Int) < 501)
  (refine sw_skip ?_; refine sn_then ?_; refine sw_seq ?_; refine sw_region ?_; refine so_1 rfl ?_)
  refine so_callE rfl rfl rfl (Pick_S (by unfold I64; omega)) ?_
  rw [if_neg (by omega)]
  (refine so_2 rfl (by (unfold I64; omega)) ?_; refine so_1 rfl ?_)
  refine so_callE rfl rfl rfl (Pick_S (by unfold I64; omega)) ?_
  rw [if_neg (by omega)]
  generalize room % 501 = r at *
  obtain ⟨w, hw⟩ : ∃ w, w = 1 + width % 32 := ⟨_, rfl⟩
  rw [← hw]
  have hw' : 1 ≤ w ∧ w ≤ 32 := by omega
  clear hw w0 w1
  ((iterate 2 refine so_1 rfl ?_); refine so_nil ?_; refine sn_then ?_; refine sw_seq ?_; refine sw_region ?_; (iterate 2 refine so_1 rfl ?_))
  refine so_call rfl rfl rfl (New_blob_S (by unfold newOk; omega)) ?_
  rintro _ _ ⟨gs, gm, rfl, rfl⟩
  ((iterate 5 refine so_1 rfl ?_); refine so_nil ?_; refine sn_then ?_; (iterate 2 refine sw_seq ?_); refine sw_region ?_; (iterate 6 refine so_1 rfl ?_); refine so_nil ?_; refine sn_then ?_; refine sw_cond_f rfl ?_; refine sw_skip ?_; refine sn_then ?_; refine sw_seq ?_; refine sw_region ?_; (iterate 2 refine so_1 rfl ?_))
  have hn30 : xss.length ≤ 30 := by omega
  refine so_make (n := xss.length) (sz := 1) (cs := List.replicate xss.length (.bool false)) rfl rfl rfl rfl rfl rfl rfl rfl rfl (by omega) (by exact made_one (.bool false) _) fun gk => ?_
  refine so_ent (G := rG gk xss.length (List.replicate xss.length false) :: stB gs gm w r 0 [] [Is W]) (by simp only [rG, List.map_replicate]; exact Ent.refl _) ?_
  (refine so_1 rfl ?_; refine so_nil ?_; refine sn_then ?_; (iterate 2 refine sw_seq ?_); refine sw_region ?_; refine so_1 rfl ?_; refine so_nil ?_; refine sn_then ?_; refine sw_block ?_)
  refine sw_loop (S := List Bool × Int × List Kp × Nat) (fun s => [(0, .int .i64 w), (2, .slice A xss.length c), (3, .slice A3 dr.length c3), (9, .bool true), (10, .pointer (some ⟨gs, 0, none⟩)), (12, .slice (some ⟨gk, 0, none⟩) xss.length xss.length), (13, .int .i64 (s.2.2.2 : Int))])
    (fun s => rG gk xss.length s.1 :: stB gs gm w r s.2.1 s.2.2.1 [Is W]) (fun s => s.1.length = xss.length ∧ s.2.2.2 ≤ xss.length ∧ StI w r s.2.1 s.2.2.1 ∧ KI w xss s.1 s.2.2.1 ∧ s.2.2.1.length ≤ s.2.2.2 ∧ ∀ p, s.2.2.2 ≤ p → s.1.getD p false = false)
    (fun s => xss.length - s.2.2.2) (List.replicate xss.length false, 0, [], 0) ⟨rfl, rfl, rfl, rfl, rfl, rfl, rfl, trivial⟩ (Ent.refl _) ?_ ?_
  · refine ⟨List.length_replicate, Nat.zero_le _, StI.nil w (by omega), fun m hm hk => ?_, Nat.le_refl _, fun p _ => ?_⟩
    · rw [List.getD_eq_getElem?_getD, List.getElem?_replicate] at hk; split at hk <;> simp at hk
    · rw [List.getD_eq_getElem?_getD, List.getElem?_replicate]; split <;> rfl
  rintro ⟨ks, u, l, i⟩ ⟨i0, i1, i2, i3, i4, i5⟩
  dsimp only at i0 i1 i2 i3 i4 i5 ⊢
  ((iterate 2 refine sw_seq ?_); refine sw_region ?_; (iterate 4 refine so_1 rfl ?_); refine so_nil ?_; refine sn_then ?_)
  refine sw_if rfl (fun h1 => ?_) (fun h1 => ?_)
  rotate_left
  · (refine sw_exit ?_; refine sn_then_exit ?_; refine sn_loop_exit ?_; refine sn_block_exit ?_; refine sn_then ?_; refine sw_seq ?_; refine sw_region ?_; (iterate 2 refine so_1 rfl ?_); refine so_nil ?_; refine sn_then ?_; refine sw_ret ?_)
    refine sn_ret rfl (.tmp rfl .nil) (ent_keep 4 [] rfl rfl) ?_
    exact ⟨rfl, rfl⟩
  have h1' : i < xss.length := by omega
  obtain ⟨bk, off, uu, rfl, g1, g2, g3, g4⟩ := f3 i h1'
  have hli := hlen i h1'
  have hu0 : 0 ≤ u := by rw [i2.us]; exact lenSum_nn l
  have hur := i2.ur
  (refine sw_skip ?_; refine sn_then ?_; refine sw_seq ?_; refine sw_block ?_; refine sw_seq ?_; refine sw_region ?_; (iterate 2 refine so_1 rfl ?_); refine so_2 rfl (by omega) ?_)
  refine so_rd rfl (fun w H => ex_load rfl rfl rfl (by rw [mulz_eq, Nat.mul_one]; exact is_cell (k := 4) rfl g1 g2 w H)) rfl ?_
  (refine so_1 rfl ?_)
  refine so_callE rfl rfl rfl (Of_S (by omega) (is_vl g3 (k := 4) rfl)) ?_
  have hid := idOk_cut xss[i] w
  ((iterate 3 refine so_1 rfl ?_))
  refine so_new rfl rfl rfl rfl rfl fun g14 => ?_
  refine so_stW 0 rfl rfl rfl rfl rfl rfl rfl (by rw [u8s_len, hid.1]; rfl) (u8s_one _) (by simp [hid.1]) ?_
  (refine so_1 rfl ?_; refine so_nil ?_; refine sn_then ?_; refine sw_seq ?_; refine sw_region ?_; refine so_1 rfl ?_)
  refine so_callE rfl rfl rfl ((Used_S (F := pt g14 t_api_ID (u8s (dg xss[i] w)) :: rG gk xss.length ks :: [Is W])).at (ent_keep 5 [2, 3, 4, 0, 1] rfl rfl) (ent_keep 5 [3, 4, 0, 1, 2] rfl rfl)) ?_
  (refine so_1 rfl ?_; refine so_nil ?_; refine sn_then ?_; refine sw_seq ?_)
  refine sw_draw flo [pt g14 t_api_ID (u8s (dg xss[i] w)), Is W] (by decide +kernel) (ent_keep 5 [0] rfl rfl) ?_
  (refine sd_1 rfl (.inl rfl) ?_)
  refine sd_ldA 0 rfl rfl rfl rfl rfl rfl (segID hid.1) rfl rfl ?_
  ((iterate 2 refine sd_1 rfl (.inl rfl) ?_); refine sd_2 rfl rfl (by omega) ?_)
  refine sd_rd rfl (fun w H => ex_load rfl rfl rfl (by rw [mulz_eq, Nat.mul_one]; exact is_cell (k := 1) rfl g1 g2 w H)) rfl rfl ?_
  refine sd_call rfl rfl rfl rfl ((putAny_S (F := pt g14 t_api_ID (u8s (dg xss[i] w)) :: rG gk xss.length ks :: [Is W]) i2 (by omega) (is_vl g3 (k := 2) rfl) g4 (by omega)).ent (ent_keep 5 [2, 3, 4, 0, 1] rfl rfl)) ?_
  rintro _ _ ⟨is, e, u', l', rfl, rfl, hP⟩
  refine ⟨ent_keep 5 [3] rfl rfl, ?_⟩
  ((iterate 5 refine sd_1 rfl (.inl rfl) ?_))
  refine sd_nil ?_
  (refine sn_then ?_; refine sw_seq ?_; refine sw_region ?_; (iterate 4 refine so_1 rfl ?_); refine so_2 rfl (by omega) ?_)
  refine so_strow 4 i rfl rfl rfl rfl rfl rfl rfl rfl (bool_set (decide (e = 0)) (by omega)) rfl (by rw [mulz_eq, Nat.mul_one, Int.toNat_natCast]) (by simp; omega) (fun u hu => by simp at hu; subst hu; rfl) ?_
  (refine so_nil ?_; refine sn_then ?_; (iterate 2 refine sw_seq ?_))
  refine sw_cutT (S := Unit) (fun _ => [(0, .int .i64 w), (2, .slice (some ⟨bk, off, none⟩) xss.length c), (3, .slice A3 dr.length c3), (9, .bool true), (10, .pointer (some ⟨gs, 0, none⟩)), (12, .slice (some ⟨gk, 0, none⟩) xss.length xss.length), (13, .int .i64 (i : Int)), (124, .bool false)])
    (fun _ => rG gk xss.length (ks.set i (decide (e = 0))) :: stB gs gm w r u' l' [Is W]) (fun _ => True) (fun _ _ => ?_) (fun fin => ?_)
  rotate_left
  · have hP' := hP.how
    clear hP
    rcases hP' with ⟨rfl, rfl, rfl⟩ | ⟨rfl, rfl, rfl | rfl | rfl⟩
    · refine sw_draw flo (stB gs gm w r (u + xss[i].length) l' (pt g14 t_api_ID (u8s (dg xss[i] w)) :: rG gk xss.length (ks.set i true) :: [Is W])) (by decide +kernel) (Ent.refl _) ?_
      ((iterate 6 refine sd_1 rfl (.inl rfl) ?_))
      refine sd_callE rfl rfl rfl rfl (Used_S) (Ent.refl _) ?_
      obtain ⟨A9, c9, rfl, m1, m2, m3, m4⟩ := g3.form
      ((iterate 3 refine sd_1 rfl (.inl rfl) ?_); refine sd_2 rfl rfl (by omega) ?_)
      refine sd_rd rfl (fun w H => ex_load rfl rfl rfl (by rw [mulz_eq, Nat.mul_one]; exact is_cell (k := 5) rfl g1 g2 w H)) rfl rfl ?_
      (refine sd_1 rfl (.inl rfl) ?_; refine sd_2 rfl rfl (by (unfold I64; omega)) ?_; (iterate 4 refine sd_1 rfl (.inl rfl) ?_))
      refine sd_know 103 (.bool false) rfl (by simp) ?_
      ((iterate 4 refine sd_1 rfl (.inl rfl) ?_); refine sd_1 rfl (.inr rfl) ?_; (iterate 16 refine sd_1 rfl (.inl rfl) ?_))
      refine sd_nil (fin () _ _ trivial ⟨rfl, rfl, rfl, rfl, rfl, rfl, rfl, rfl, trivial⟩ (ent_keep 5 [4, 0, 1, 2] rfl rfl))
    · refine sw_draw flo (stB gs gm w r u' l' (pt g14 t_api_ID (u8s (dg xss[i] w)) :: rG gk xss.length (ks.set i true) :: [Is W])) (by decide +kernel) (Ent.refl _) ?_
      ((iterate 6 refine sd_1 rfl (.inl rfl) ?_); refine sd_1 rfl (.inr rfl) ?_; (iterate 15 refine sd_1 rfl (.inl rfl) ?_))
      refine sd_callE rfl rfl rfl rfl (Used_S) (Ent.refl _) ?_
      ((iterate 5 refine sd_1 rfl (.inl rfl) ?_))
      refine sd_know 113 (.bool false) rfl (by simp) ?_
      ((iterate 11 refine sd_1 rfl (.inl rfl) ?_))
      refine sd_nil (fin () _ _ trivial ⟨rfl, rfl, rfl, rfl, rfl, rfl, rfl, rfl, trivial⟩ (ent_keep 5 [4, 0, 1, 2] rfl rfl))
    · refine sw_draw flo (stB gs gm w r u' l' (pt g14 t_api_ID (u8s (dg xss[i] w)) :: rG gk xss.length (ks.set i false) :: [Is W])) (by decide +kernel) (Ent.refl _) ?_
      ((iterate 6 refine sd_1 rfl (.inl rfl) ?_); refine sd_1 rfl (.inr rfl) ?_; (iterate 15 refine sd_1 rfl (.inl rfl) ?_))
      refine sd_callE rfl rfl rfl rfl (Used_S) (Ent.refl _) ?_
      ((iterate 5 refine sd_1 rfl (.inl rfl) ?_))
      refine sd_know 113 (.bool false) rfl (by simp) ?_
      ((iterate 11 refine sd_1 rfl (.inl rfl) ?_))
      refine sd_nil (fin () _ _ trivial ⟨rfl, rfl, rfl, rfl, rfl, rfl, rfl, rfl, trivial⟩ (ent_keep 5 [4, 0, 1, 2] rfl rfl))
    · refine sw_draw flo (stB gs gm w r u' l' (pt g14 t_api_ID (u8s (dg xss[i] w)) :: rG gk xss.length (ks.set i false) :: [Is W])) (by decide +kernel) (Ent.refl _) ?_
      ((iterate 6 refine sd_1 rfl (.inl rfl) ?_); refine sd_1 rfl (.inr rfl) ?_; (iterate 15 refine sd_1 rfl (.inl rfl) ?_))
      refine sd_callE rfl rfl rfl rfl (Used_S) (Ent.refl _) ?_
      ((iterate 5 refine sd_1 rfl (.inl rfl) ?_))
      refine sd_know 113 (.bool false) rfl (by simp) ?_
      ((iterate 11 refine sd_1 rfl (.inl rfl) ?_))
      refine sd_nil (fin () _ _ trivial ⟨rfl, rfl, rfl, rfl, rfl, rfl, rfl, rfl, trivial⟩ (ent_keep 5 [4, 0, 1, 2] rfl rfl))
  have hkset : ∀ p, (ks.set i (decide (e = 0))).getD p false = if p = i then decide (e = 0) else ks.getD p false := fun p => by
    simp only [List.getD_eq_getElem?_getD, List.getElem?_set]
    by_cases hp : i = p
    · subst hp; rw [if_pos rfl, if_pos (by omega), if_pos rfl]; rfl
    · rw [if_neg hp, if_neg (fun h => hp h.symm)]
  have hK1 : KI w xss (ks.set i (decide (e = 0))) l' := fun m hm hk => by
    rw [hkset] at hk
    by_cases hp : m = i
    · subst hp; rw [if_pos rfl] at hk; exact hP.ok (of_decide_eq_true hk)
    · rw [if_neg hp] at hk
      obtain ⟨x, hx1, hx2⟩ := i3 m hm hk
      exact ⟨x, hP.keep _ _ hx1, hx2⟩
  have hK2 : ∀ p, i + 1 ≤ p → (ks.set i (decide (e = 0))).getD p false = false := fun p hp => by rw [hkset, if_neg (by omega)]; exact i5 p (by omega)
  have hK3 : (ks.set i (decide (e = 0))).length = xss.length := by rw [List.length_set]; exact i0
  have hst' := hP.st
  have hln' := hP.ln
  generalize ks.set i (decide (e = 0)) = ks' at *
  clear hkset i3 i5 i0 hP i2 hur hu0
  refine sw_cond_f rfl (sw_skip (sn_then (sw_seq ?_)))
  refine sw_cutT (S := List Bool × Int × List Kp) (fun _ => [(0, .int .i64 w), (2, .slice (some ⟨bk, off, none⟩) xss.length c), (3, .slice A3 dr.length c3), (9, .bool true), (10, .pointer (some ⟨gs, 0, none⟩)), (12, .slice (some ⟨gk, 0, none⟩) xss.length xss.length), (13, .int .i64 (i : Int))])
    (fun s => rG gk xss.length s.1 :: stB gs gm w r s.2.1 s.2.2 [Is W]) (fun s => s.1.length = xss.length ∧ StI w r s.2.1 s.2.2 ∧ KI w xss s.1 s.2.2 ∧ s.2.2.length ≤ i + 1 ∧ ∀ p, i + 1 ≤ p → s.1.getD p false = false) ?_ (fun fin => ?_)
  · rintro ⟨ks, u, l⟩ ⟨j0, j1, j2, j3, j4⟩
    dsimp only at j0 j1 j2 j3 j4 ⊢
    have hh := holds_S (b := W) (F := [Is W]) (gs := gs) (gm := gm) (A := some ⟨gk, 0, none⟩) (c := xss.length) (ks := ks) j1 hw' (by omega) h2 rfl j0 hn30 hlen j2 (by omega)
    dsimp only [rK] at hh
    rw [j0] at hh
    (refine sw_seq ?_; refine sw_region ?_; (iterate 3 refine so_1 rfl ?_))
    refine so_callE rfl rfl rfl (hh) ?_
    (refine so_1 rfl ?_; refine so_nil ?_; refine sn_then ?_; refine sw_cond_f rfl ?_; refine sw_skip ?_; refine sn_block ?_; refine sn_then ?_; refine sw_region ?_; refine so_1 rfl ?_; refine so_2 rfl (by (unfold I64; omega)) ?_; refine so_1 rfl ?_; refine so_nil ?_)
    refine sn_round (ks, u, l, i + 1) ⟨rfl, rfl, rfl, rfl, rfl, rfl, rfl, trivial⟩ (Ent.refl _) ⟨j0, h1', j1, j2, j3, j4⟩ (by dsimp only; omega)
  have hKI : ks'.length = xss.length ∧ StI w r u' l' ∧ KI w xss ks' l' ∧ l'.length ≤ i + 1 ∧ ∀ p, i + 1 ≤ p → ks'.getD p false = false := ⟨hK3, hst', hK1, by omega, hK2⟩
  (refine sw_seq ?_; refine sw_region ?_; (iterate 5 refine so_1 rfl ?_))
  by_cases c1 : i < dr.length
  · refine so_know 129 (.bool true) rfl (by simp; omega) ?_
    obtain ⟨bk3, off3, rfl, hc3⟩ := vl_cell (F := rG gk xss.length ks' :: stB gs gm w r u' l' [Is W]) (k := 4) rfl h3 i c1
    ((iterate 2 refine so_1 rfl ?_); refine so_2 rfl (by omega) ?_)
    refine so_rd rfl (fun w H => ex_load rfl rfl rfl (by rw [mulz_eq, Nat.mul_one]; exact hc3 w H)) rfl ?_
    refine so_callE rfl rfl rfl (Pick_S (by unfold I64; omega)) ?_
    rw [if_neg (by omega)]
    ((iterate 2 refine so_1 rfl ?_); refine so_nil ?_; refine sn_then ?_)
    by_cases c2 : dr[i] % 3 = 0
    · refine sw_know 136 (.bool true) rfl (by simp [c2]) ?_
      (refine sw_cond_t rfl ?_; refine sw_seq ?_; refine sw_region ?_; (iterate 2 refine so_1 rfl ?_); refine so_2 rfl (by omega) ?_)
      refine so_rd rfl (fun w H => ex_load rfl rfl rfl (by rw [mulz_eq, Nat.mul_one]; exact hc3 w H)) rfl ?_
      (refine so_1 rfl ?_; refine so_2 rfl (by (unfold I64; omega)) ?_)
      refine so_callE rfl rfl rfl (Pick_S (by unfold I64; omega)) ?_
      rw [if_neg (by omega)]
      have k0 := Int.emod_nonneg dr[i] (by omega : (i : Int) + 1 ≠ 0)
      have k1 := Int.emod_lt_of_pos dr[i] (by omega : (0 : Int) < (i : Int) + 1)
      obtain ⟨kk, hkk⟩ : ∃ kk : Nat, dr[i] % ((i : Int) + 1) = (kk : Int) := ⟨(dr[i] % ((i : Int) + 1)).toNat, by omega⟩
      rw [hkk] at k0 k1 ⊢
      have hkx : kk < xss.length := by omega
      obtain ⟨bk4, off4, uu4, hA4, p1, p2, p3, p4⟩ := f3 kk hkx
      simp only [Option.some.injEq, Addr.mk.injEq, and_true] at hA4
      obtain ⟨rfl, rfl⟩ := hA4
      have hlk := hlen kk hkx
      clear hkk k0
      (refine so_1 rfl ?_; refine so_nil ?_; refine sn_then ?_; refine sw_seq ?_; refine sw_region ?_; (iterate 2 refine so_1 rfl ?_); refine so_2 rfl (by omega) ?_)
      refine so_rd rfl (fun w H => ex_load rfl rfl rfl (by rw [mulz_eq, Nat.mul_one]; exact is_cell (k := 4) rfl p1 p2 w H)) rfl ?_
      (refine so_1 rfl ?_)
      refine so_callE rfl rfl rfl (Of_S (by omega) (is_vl p3 (k := 4) rfl)) ?_
      have hidk := idOk_cut xss[kk] w
      generalize cutR (sumM xss[kk]) w = idk at *
      ((iterate 3 refine so_1 rfl ?_))
      refine so_new rfl rfl rfl rfl rfl fun g20 => ?_
      refine so_stW 0 rfl rfl rfl rfl rfl rfl rfl (by rw [u8s_len, hidk.1]; rfl) (u8s_one _) (by simp [hidk.1]) ?_
      (refine so_1 rfl ?_; refine so_nil ?_; refine sn_then ?_; refine sw_seq ?_; refine sw_region ?_; refine so_1 rfl ?_)
      refine so_ldA 0 rfl rfl rfl rfl rfl rfl (segID hidk.1) rfl ?_
      refine so_call rfl rfl rfl ((dropAny_S (F := pt g20 t_api_ID (u8s idk) :: rG gk xss.length ks' :: [Is W]) hst' (by omega) hidk).ent (ent_keep 5 [2, 3, 4, 0, 1] rfl rfl)) ?_
      rintro _ _ ⟨is2, u2, l2, rfl, rfl, d1, d2, d3⟩
      (refine so_nil ?_; refine sn_then ?_; refine sw_seq ?_; refine sw_region ?_; refine so_1 rfl ?_; refine so_nil ?_; refine sn_then ?_; refine sw_block ?_)
      refine sw_loop (S := List Bool × Nat) (fun s => [(0, .int .i64 w), (2, .slice (some ⟨bk, off, none⟩) xss.length c), (3, .slice (some ⟨bk3, off3, none⟩) dr.length c3), (9, .bool true), (10, .pointer (some ⟨gs, 0, none⟩)), (12, .slice (some ⟨gk, 0, none⟩) xss.length xss.length), (13, .int .i64 (i : Int)), (20, .pointer (some ⟨g20, 0, none⟩)), (22, .int .i64 (s.2 : Int))])
        (fun s => rG gk xss.length s.1 :: pt g20 t_api_ID (u8s idk) :: stB gs gm w r u2 l2 [Is W]) (fun s => s.1.length = xss.length ∧ s.2 ≤ i + 1 ∧ (∀ p, s.1.getD p false = true → ks'.getD p false = true) ∧ ∀ p (hp : p < xss.length), p < s.2 → s.1.getD p false = true → cutR (sumM xss[p]) w ≠ idk)
        (fun s => i + 1 - s.2) (ks', 0) ⟨rfl, rfl, rfl, rfl, rfl, rfl, rfl, rfl, rfl, trivial⟩ (ent_keep 5 [4, 3, 0, 1, 2] rfl rfl) ⟨hK3, Nat.zero_le _, fun _ h => h, fun p _ h => absurd h (Nat.not_lt_zero p)⟩ ?_
      rintro ⟨ks2, m⟩ ⟨t0, t1, t2, t3⟩
      dsimp only at t0 t1 t2 t3 ⊢
      ((iterate 2 refine sw_seq ?_); refine sw_region ?_; (iterate 3 refine so_1 rfl ?_); refine so_nil ?_; refine sn_then ?_)
      refine sw_if rfl (fun hm => ?_) (fun hm => ?_)
      rotate_left
      · refine sw_exit (sn_then_exit (sn_loop_exit (sn_block_exit ?_)))
        refine fin (ks2, u2, l2) _ _ ⟨t0, d1, fun p hp hk => ?_, by dsimp only; omega, fun p hp => ?_⟩ ⟨rfl, rfl, rfl, rfl, rfl, rfl, rfl, trivial⟩ (ent_keep 5 [0, 2, 3, 4] rfl rfl)
        · have hks := t2 p hk
          obtain ⟨x, hx1, hx2⟩ := hK1 p hp hks
          have hpi : p < m := by
            apply Classical.byContradiction
            intro h
            rw [hK2 p (by omega)] at hks; cases hks
          exact ⟨x, by rw [← hx1]; exact d3 _ (t3 p hp hpi hk), hx2⟩
        · cases hb : ks2.getD p false with
          | false => rfl
          | true => have := t2 p hb; rw [hK2 p hp] at this; cases this
      have hmx : m < xss.length := by omega
      obtain ⟨bk5, off5, uu5, hA5, z1, z2, z3, z4⟩ := f3 m hmx
      simp only [Option.some.injEq, Addr.mk.injEq, and_true] at hA5
      obtain ⟨rfl, rfl⟩ := hA5
      have hlm := hlen m hmx
      have t3m := t3
      (refine sw_skip ?_; refine sn_then ?_; refine sw_seq ?_; refine sw_block ?_; refine sw_seq ?_; refine sw_region ?_; (iterate 2 refine so_1 rfl ?_); refine so_2 rfl (by omega) ?_)
      refine so_rd rfl (fun w H => ex_load rfl rfl rfl (by rw [mulz_eq, Nat.mul_one]; exact is_cell (k := 5) rfl z1 z2 w H)) rfl ?_
      (refine so_1 rfl ?_)
      refine so_callE rfl rfl rfl (Of_S (by omega) (is_vl z3 (k := 5) rfl)) ?_
      have hidm := idOk_cut xss[m] w
      obtain ⟨idm, hdm⟩ : ∃ idm, idm = cutR (sumM xss[m]) w := ⟨_, rfl⟩
      rw [← hdm] at hidm ⊢
      ((iterate 3 refine so_1 rfl ?_))
      refine so_new rfl rfl rfl rfl rfl fun g23 => ?_
      refine so_stW 0 rfl rfl rfl rfl rfl rfl rfl (by rw [u8s_len, hidm.1]; rfl) (u8s_one _) (by simp [hidm.1]) ?_
      (refine so_1 rfl ?_; refine so_nil ?_; refine sn_then ?_; refine sw_region ?_; (iterate 4 refine so_1 rfl ?_); refine so_2 rfl (by omega) ?_)
      refine so_rd rfl (fun w H => ex_load rfl rfl rfl (by rw [mulz_eq, Nat.mul_one]; exact rG_cell (k := 1) rfl t0 m hmx w H)) rfl ?_
      cases hb : ks2.getD m false with
      | false =>
        ((iterate 5 refine so_1 rfl ?_); refine so_2 rfl (by omega) ?_)
        refine so_strow 1 m rfl rfl rfl rfl rfl rfl rfl rfl (bool_set (false) (by omega)) rfl (by rw [mulz_eq, Nat.mul_one, Int.toNat_natCast]) (by simp; omega) (fun u hu => by simp at hu; subst hu; rfl) ?_
        (refine so_nil ?_; refine sn_block ?_; refine sn_then ?_; refine sw_region ?_; refine so_1 rfl ?_; refine so_2 rfl (by (unfold I64; omega)) ?_; refine so_1 rfl ?_; refine so_nil ?_)
        refine sn_round (ks2.set m (false), m + 1) ⟨rfl, rfl, rfl, rfl, rfl, rfl, rfl, rfl, rfl, trivial⟩ (ent_keep 1 [] rfl rfl) ⟨by rw [List.length_set]; exact t0, by omega, fun p hk => ?_, fun p hp hlt hk => ?_⟩ (by dsimp only; omega)
        · rw [set_getD _ _ _ _ (by omega)] at hk
          by_cases e1 : p = m
          · rw [if_pos e1] at hk; cases hk
          · rw [if_neg e1] at hk; exact t2 p hk
        · rw [set_getD _ _ _ _ (by omega)] at hk
          by_cases e1 : p = m
          · rw [if_pos e1] at hk; cases hk
          · rw [if_neg e1] at hk; exact t3 p hp (by omega) hk
      | true =>
        (refine so_1 rfl ?_)
        refine so_ldA 0 rfl rfl rfl rfl rfl rfl (segID hidm.1) rfl ?_
        refine so_ldA 2 rfl rfl rfl rfl rfl rfl (segID hidk.1) rfl ?_
        refine so_pu rfl (pu_neI (as00 := idm) (bs := idk) rfl rfl hidm.1 hidk.1) rfl ?_
        (refine so_1 rfl ?_; refine so_2 rfl (by omega) ?_)
        refine so_strow 1 m rfl rfl rfl rfl rfl rfl rfl rfl (bool_set (!decide (idm = idk)) (by omega)) rfl (by rw [mulz_eq, Nat.mul_one, Int.toNat_natCast]) (by simp; omega) (fun u hu => by simp at hu; subst hu; rfl) ?_
        (refine so_nil ?_; refine sn_block ?_; refine sn_then ?_; refine sw_region ?_; refine so_1 rfl ?_; refine so_2 rfl (by (unfold I64; omega)) ?_; refine so_1 rfl ?_; refine so_nil ?_)
        refine sn_round (ks2.set m (!decide (idm = idk)), m + 1) ⟨rfl, rfl, rfl, rfl, rfl, rfl, rfl, rfl, rfl, trivial⟩ (ent_keep 1 [] rfl rfl) ⟨by rw [List.length_set]; exact t0, by omega, fun p hk => ?_, fun p hp hlt hk => ?_⟩ (by dsimp only; omega)
        · rw [set_getD _ _ _ _ (by omega)] at hk
          by_cases e1 : p = m
          · subst e1; exact t2 p hb
          · rw [if_neg e1] at hk; exact t2 p hk
        · rw [set_getD _ _ _ _ (by omega)] at hk
          by_cases e1 : p = m
          · subst e1; rw [if_pos rfl] at hk; rw [← hdm]; simpa using hk
          · rw [if_neg e1] at hk; exact t3 p hp (by omega) hk
    · refine sw_know 136 (.bool false) rfl (by simp [c2]) ?_
      exact sw_cond_f rfl (sw_skip (fin (ks', u', l') _ _ hKI ⟨rfl, rfl, rfl, rfl, rfl, rfl, rfl, trivial⟩ (Ent.refl _)))
  · refine so_know 129 (.bool false) rfl (by simp; omega) ?_
    repeat refine so_1 rfl ?_
    exact so_nil (sn_then (sw_cond_f rfl (sw_skip (fin (ks', u', l') _ _ hKI ⟨rfl, rfl, rfl, rfl, rfl, rfl, rfl, trivial⟩ (Ent.refl _)))))
end Go.Proofs.Ytahimopjohdkjaa
