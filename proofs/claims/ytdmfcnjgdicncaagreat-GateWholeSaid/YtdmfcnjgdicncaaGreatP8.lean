/- Events as bytes: the program's Encode. Conditions: numbers of 64 bits; not too many. -/
import Derived.Test.YtdmfcnjgdicncaaGreatP7
import Derived.Test.YtdmfcnjgdicncaaGreatP5
import Derived.Test.YtdmfcnjgdicncaaGreatP0
import Derived.Test.YtdmfcnjgdicncaaGreatP6
namespace Go.Proofs.YtdmfcnjgdicncaaGreat
open Go Go.Eng Go.RowKit

theorem i64_of {x : Int} (h : (Lit.int .i64 x).wf = true) : I64 x := (i64wf x).1 h
structure EvL (e : Ev) : Prop where
 dn : e.deps.length ≤ 1000000
 rn : e.refs.length ≤ 1000000
 ps : e.repo.size ≤ 1000000
 ts : e.tag.size ≤ 1000000
section
variable {b : World} {F : List SP} {e : Ev}
end

instance : EqT Tryz.prog t_api_Fault := ⟨by kernel_rfl⟩
set_option maxRecDepth 100000 in
theorem eq_fault (a b c d : Int) (w : World) : (Op.equalIn 10000 t_api_Fault (ftV (a, b)) (ftV (c, d))).run Tryz.prog w = .ok (decide (a = c ∧ b = d)) w := by
 have hS : Tryz.prog.underlying t_api_Fault = some (.struct (Tryz.prog.fieldsOf t_api_Fault)) := by kernel_rfl
 have hp : Tryz.prog.stoodInHeld t_api_Fault = false := by kernel_rfl
 have hf : ∃ f g : Field, (Tryz.prog.fieldsOf t_api_Fault).toList = [f, g] ∧ f.name ≠ "_" ∧ g.name ≠ "_" ∧ f.type = t_api_Errno ∧ g.type = t_int ∧ f.offset = 0 ∧ g.offset = 1 :=
  ⟨_, _, rfl, by decide, by decide, rfl, rfl, rfl, rfl⟩
 obtain ⟨f, g, h1, h2, h3, h4, h5, h6, h7⟩ := hf
 have ui : Tryz.prog.underlying t_int = some (.int .i64) := by kernel_rfl
 have ue : Tryz.prog.underlying t_api_Errno = some (.int .i64) := by kernel_rfl
 rw [show (10000 : Nat) = 9998 + 1 + 1 from rfl, run_equalIn_struct w 9999 t_api_Fault _ _ hS hp, h1]
 have p0 : ∀ (x y : Int), (part t_api_Errno #[.int .i64 x, .int .i64 y] 0).run Tryz.prog w = .ok (.int .i64 x) w := fun x y => by simp [part, isAgg, run_underlying ue]
 have p1 : ∀ (x y : Int), (part t_int #[.int .i64 x, .int .i64 y] 1).run Tryz.prog w = .ok (.int .i64 y) w := fun x y => by simp [part, isAgg, run_underlying ui]
 have q : ∀ x y : Int, (Op.equalIn 9999 t_int (.int .i64 x) (.int .i64 y)).run Tryz.prog w = .ok (x == y) w := fun x y => run_equalIn_int w 9998 t_int .i64 .i64 x y ui
 have q0 : ∀ x y : Int, (Op.equalIn 9999 t_api_Errno (.int .i64 x) (.int .i64 y)).run Tryz.prog w = .ok (x == y) w := fun x y => run_equalIn_int w 9998 t_api_Errno .i64 .i64 x y ue
 simp only [Op.eqFields, h2, h3, h4, h5, h6, h7, ne_eq, not_false_eq_true, if_true, Sem.run_bind, p0, p1, q, q0, Result.andThen_ok]
 by_cases e1 : a = c <;> by_cases e2 : b = d <;> simp [e1, e2, p1, q]
theorem ent_rDi {F G : List SP} {v : Value} {n : Nat} {cs : List Value} {l : List (List Int)} (k : Nat) (hk : nth F k = some (row t_api_ID 32 v n cs)) (hl : n = l.length) (hc : cs = idsC l) (hG : setF F k (rD v l) = some G) : Ent F G := by
 subst hl; subst hc; exact ent_set k hk (fun _ h => h) hG
section
variable {b : World} {F : List SP} {B : List Int}
end

section
variable {b : World} {F : List SP} {e : Ev}
theorem id_cells {gA oA c : Nat} {l : List (List Int)} (h : ∀ w, Sat b F w → SL w 32 (.slice (some ⟨gA, oA, none⟩) l.length c) l.length (idsC l)) (hl : len32 l) {i : Nat} (hi : i < l.length) : ∀ w, Sat b F w → ∀ j, j < 32 → w.cell? ⟨gA, oA + i * 32 + j, none⟩ = (u8s l[i])[j]? :=
 fun w H j hj => fl_cell (f := u8s) (by rw [← idsC_fl]; exact h w H) (fun a h => by rw [u8s_len, hl a h]) hi hj
theorem eplaced1_S {x : Int} : SC Tryz.prog n_event_placed_1 [.int .i64 x] b F (fun v F' => v = .bool (!okNum x) ∧ F' = F) := by
 refine enterS F_event_placed_1 rfl rfl rfl ?_
 (refine sw_seq (sw_region ?_); refine so_1 rfl ?_; refine so_nil (sn_then ?_); refine sw_seq (sw_region ?_); (iterate 3 refine so_1 rfl ?_))
 refine so_if 5 rfl (fun h => ?_) (fun h => ?_)
 ·((iterate 4 refine so_1 rfl ?_); refine so_nil (sn_then ?_); refine sw_ret ?_)
  refine sn_ret rfl (.tmp rfl .nil) (Ent.refl _) ?_
  exact ⟨congrArg Value.bool (by simp only [okNum]; rw [decide_eq_false (show ¬ 0 ≤ x by omega)]; rfl), rfl⟩
 ·((iterate 4 refine so_1 rfl ?_); refine so_nil (sn_then ?_); refine sw_ret ?_)
  refine sn_ret rfl (.tmp rfl .nil) (Ent.refl _) ?_
  exact ⟨congrArg Value.bool (by simp only [okNum]; rw [decide_eq_true (show 0 ≤ x by omega), Bool.true_and, Bool.eq_iff_iff]; simp), rfl⟩
set_option maxHeartbeats 1000000 in
theorem eplaced_S {n : Int} (he : ∀ w, Sat b F w → ER w e) (hd : dotOk (e.r, e.n)) (hl : e.deps.length ≤ 1000000) : SC Tryz.prog n_event_placed [evV e, .int .i64 n] b F (fun v F' => v = .bool (placedB e n) ∧ F' = F) := by
 have d1 := i64_of hd.1; have d2 := i64_of hd.2
 unfold I64 at d1 d2
 dsimp only at d1 d2
 refine enterS F_event_placed rfl rfl rfl ?_
 refine sw_fact (fun w H => (he w H).dv.form) ?_
 rintro ⟨A, c, hdv, h1, h2, h3, h4⟩
 (refine sw_seq (sw_region ?_))
 refine so_box rfl rfl rfl rfl rfl fun g2 => ?_
 (refine so_1 rfl ?_; refine so_nil (sn_then ?_); refine sw_seq (sw_region ?_); refine so_1 rfl ?_; refine so_l 0 rfl rfl rfl ?_)
 refine so_new rfl rfl rfl rfl rfl fun g5 => ?_
 (refine so_s1 0 rfl rfl rfl rfl ?_; refine so_nil (sn_then ?_); (iterate 2 refine sw_seq ?_); refine sw_region ?_; refine so_1 rfl ?_; refine so_l 0 rfl rfl rfl ?_; (iterate 2 refine so_1 rfl ?_))
 by_cases k1 : e.r < 1
 ·refine so_know 11 (.bool true) rfl (congrArg Value.bool (decide_eq_true k1)) ?_
  ((iterate 22 refine so_1 rfl ?_); refine so_nil (sn_then ?_); refine sw_cond_t rfl ?_; refine sw_seq (sw_region ?_); refine so_1 rfl ?_; refine so_nil (sn_then ?_); refine sw_ret ?_; refine sn_then_ret ?_)
  refine sn_ret rfl (.tmp rfl .nil) (ent_keep 2 [] rfl rfl) ?_
  exact ⟨congrArg Value.bool (by unfold placedB; rw [decide_eq_false (by omega)]; rfl), rfl⟩
 refine so_know 11 (.bool false) rfl (congrArg Value.bool (decide_eq_false k1)) ?_
 (refine so_1 rfl ?_; refine so_l 0 rfl rfl rfl ?_; (iterate 4 refine so_1 rfl ?_))
 by_cases k2 : n < e.r
 ·refine so_know 17 (.bool true) rfl (congrArg Value.bool (decide_eq_true k2)) ?_
  ((iterate 16 refine so_1 rfl ?_); refine so_nil (sn_then ?_); refine sw_cond_t rfl ?_; refine sw_seq (sw_region ?_); refine so_1 rfl ?_; refine so_nil (sn_then ?_); refine sw_ret ?_; refine sn_then_ret ?_)
  refine sn_ret rfl (.tmp rfl .nil) (ent_keep 2 [] rfl rfl) ?_
  exact ⟨congrArg Value.bool (by unfold placedB; rw [decide_eq_false (by omega)]; rfl), rfl⟩
 refine so_know 17 (.bool false) rfl (congrArg Value.bool (decide_eq_false k2)) ?_
 (refine so_1 rfl ?_; refine so_l 0 rfl rfl rfl ?_; (iterate 3 refine so_1 rfl ?_))
 by_cases k3 : e.n < 1
 ·refine so_know 22 (.bool true) rfl (congrArg Value.bool (decide_eq_true k3)) ?_
  ((iterate 11 refine so_1 rfl ?_); refine so_nil (sn_then ?_); refine sw_cond_t rfl ?_; refine sw_seq (sw_region ?_); refine so_1 rfl ?_; refine so_nil (sn_then ?_); refine sw_ret ?_; refine sn_then_ret ?_)
  refine sn_ret rfl (.tmp rfl .nil) (ent_keep 2 [] rfl rfl) ?_
  exact ⟨congrArg Value.bool (by unfold placedB; rw [decide_eq_false (by omega)]; rfl), rfl⟩
 refine so_know 22 (.bool false) rfl (congrArg Value.bool (decide_eq_false k3)) ?_
 (refine so_1 rfl ?_; refine so_l 0 rfl rfl rfl ?_; (iterate 3 refine so_1 rfl ?_))
 by_cases k4 : 1048576 < e.n
 ·refine so_know 27 (.bool true) rfl (congrArg Value.bool (decide_eq_true k4)) ?_
  ((iterate 6 refine so_1 rfl ?_); refine so_nil (sn_then ?_); refine sw_cond_t rfl ?_; refine sw_seq (sw_region ?_); refine so_1 rfl ?_; refine so_nil (sn_then ?_); refine sw_ret ?_; refine sn_then_ret ?_)
  refine sn_ret rfl (.tmp rfl .nil) (ent_keep 2 [] rfl rfl) ?_
  exact ⟨congrArg Value.bool (by unfold placedB; rw [decide_eq_false (by omega)]; rfl), rfl⟩
 refine so_know 27 (.bool false) rfl (congrArg Value.bool (decide_eq_false k4)) ?_
 have her : ∀ w, Sat b (pt g5 t_api_Dot [.int .i64 e.r, .int .i64 e.n] :: pt g2 t_api_Event (evC e) :: F) w → VL (Value.int .i64) w (.slice A e.deps.length c) e.deps := fun w H => by rw [← hdv]; exact (he w (H.ent (ent_keep 2 [] rfl rfl))).dv
 (refine so_1 rfl ?_; refine so_l 1 rfl rfl rfl ?_)
 rw [hdv]
 ((iterate 4 refine so_1 rfl ?_); refine so_nil (sn_then ?_))
 refine sw_ifn rfl (fun k5 => ?_) (fun k5 => ?_)
 ·(refine sw_seq (sw_region ?_); refine so_1 rfl ?_; refine so_nil (sn_then ?_); refine sw_ret ?_; refine sn_then_ret ?_)
  refine sn_ret rfl (.tmp rfl .nil) (ent_keep 2 [] rfl rfl) ?_
  exact ⟨congrArg Value.bool (by unfold placedB; rw [decide_eq_false (by omega)]; rfl), rfl⟩
 have k0 : decide (1 ≤ e.r ∧ e.r ≤ n ∧ 1 ≤ e.n ∧ e.n ≤ 1048576 ∧ (e.deps.length : Int) = n) = true := decide_eq_true (by omega)
 obtain ⟨bk, off, rfl⟩ := h4 (by omega)
 (refine sw_skip ?_; refine sn_then ?_; refine sw_seq ?_)
 refine sw_draw flo _ (by decide +kernel) (Ent.refl _) ?_
 (refine sd_1 rfl (.inl rfl) ?_; refine sd_l 1 rfl rfl rfl rfl ?_)
 rw [hdv]
 refine sd_callE rfl rfl rfl rfl ((CFnI_S (fun _ _ => eplaced1_S) her (by omega))) (Ent.refl _) ?_
 have hany : (!e.deps.any fun x => !okNum x) = e.deps.all okNum := by
  rw [Bool.eq_iff_iff]; simp [List.any_eq_false, List.all_eq_true]
 ((iterate 2 refine sd_1 rfl (.inl rfl) ?_))
 refine sd_know 38 (.bool (e.deps.all okNum)) rfl (congrArg Value.bool hany) ?_
 cases hall : e.deps.all okNum with
 | false =>
  ((iterate 13 refine sd_1 rfl (.inl rfl) ?_))
  refine sd_nil ?_
  (refine sn_then ?_; refine sw_ret ?_)
  refine sn_ret rfl (.tmp rfl .nil) (ent_keep 2 [] rfl rfl) ?_
  exact ⟨congrArg Value.bool (by unfold placedB; rw [hall]; simp), rfl⟩
 | true =>
  have hi : (e.r - 1).toNat < e.deps.length := by omega
  have hg : e.deps[(e.r - 1).toNat]?.getD 0 = e.deps[(e.r - 1).toNat] := by rw [List.getElem?_eq_getElem hi]; rfl
  (refine sd_1 rfl (.inl rfl) ?_; refine sd_l 1 rfl rfl rfl rfl ?_; refine sd_1 rfl (.inl rfl) ?_; refine sd_l 0 rfl rfl rfl rfl ?_; refine sd_2 rfl rfl (by (unfold I64; omega)) ?_)
  rw [hdv]
  (refine sd_2 rfl rfl (by omega) ?_)
  refine sd_rd rfl (fun w H => ex_load rfl rfl rfl (by rw [mulz_eq]; simpa using VL.at (her w H) (e.r - 1).toNat hi)) rfl rfl ?_
  (refine sd_1 rfl (.inl rfl) ?_; refine sd_l 0 rfl rfl rfl rfl ?_; refine sd_2 rfl rfl (by (unfold I64; omega)) ?_; (iterate 3 refine sd_1 rfl (.inl rfl) ?_))
  refine sd_nil ?_
  (refine sn_then ?_; refine sw_ret ?_)
  refine sn_ret rfl (.tmp rfl .nil) (ent_keep 2 [] rfl rfl) ?_
  exact ⟨congrArg Value.bool (by unfold placedB; rw [hall, k0, hg]; simp), rfl⟩
set_option maxHeartbeats 1000000 in
theorem IndexID_S {va : Value} {l : List (List Int)} {x : List Int} (ha : ∀ w, Sat b F w → SL w 32 va l.length (idsC l)) (hl : len32 l) (hx : x.length = 32) (hm : l.length ≤ 1000000) :
  SC Tryz.prog n_slices_Index_sl_api_ID_api_ID [va, idV x] b F (fun v F' => (∃ i : Int, v = .int .i64 i ∧ decide (0 ≤ i) = decide (x ∈ l)) ∧ F' = F) := by
 refine enterS F_slices_Index_sl_api_ID_api_ID rfl rfl rfl ?_
 refine sw_fact (fun w H => sl_form (ha w H)) ?_
 rintro ⟨A, c, rfl, h1, h2, h3, h4, _⟩
 (refine sw_seq (sw_region ?_))
 refine so_box rfl rfl rfl rfl rfl fun g3 => ?_
 (refine so_1 rfl ?_; refine so_nil (sn_then ?_); (iterate 2 refine sw_seq ?_); refine sw_region ?_; (iterate 3 refine so_1 rfl ?_); refine so_nil (sn_then ?_); refine sw_block ?_)
 refine sw_loop (S := Nat) (fun i => [(0, .slice A l.length c), (3, .pointer (some ⟨g3, 0, none⟩)), (7, .int .i64 l.length), (8, .int .i64 (i : Int))]) (fun _ => pt g3 t_api_ID (u8s x) :: F) (fun i => i ≤ l.length ∧ x ∉ l.take i) (fun i => l.length - i) 0 ⟨rfl, rfl, rfl, rfl, trivial⟩ (Ent.refl _) ⟨Nat.zero_le _, by simp⟩ ?_
 rintro i ⟨hi, hk⟩
 (refine sw_seq (sw_region ?_); refine so_1 rfl ?_; refine so_nil (sn_then ?_); refine sw_seq ?_)
 refine sw_if rfl (fun h => ?_) (fun h => ?_)
 ·have h' : i < l.length := by omega
  obtain ⟨gA, oA, rfl⟩ := h4 (by omega)
  have ca := id_cells ha hl h'
  have hy := hl _ (List.getElem_mem h')
  have hmem := List.getElem_mem h'
  have htk := List.take_succ_eq_append_getElem h'
  generalize l[i] = y at ca hy hmem htk
  (refine sw_skip ?_; refine sn_then ?_; refine sw_seq ?_; refine sw_block ?_; refine sw_seq (sw_region ?_); (iterate 2 refine so_1 rfl ?_); refine so_nil (sn_then ?_); refine sw_seq ?_)
  refine sw_draw flo _ (by decide +kernel) (Ent.refl _) ?_
  refine sd_ldA 0 rfl rfl rfl rfl rfl rfl (segID hx) rfl rfl ?_
  ((iterate 2 refine sd_1 rfl (.inl rfl) ?_); refine sd_2 rfl rfl (by omega) ?_)
  refine sd_rd rfl (fun w H => ex_loadN (cs := u8s y) rfl rfl rfl (by rw [u8s_len, hy]; rfl) (fun j hj => by rw [mulz_eq, Int.toNat_natCast]; exact ca w (H.ent (ent_keep 1 [] rfl rfl)) j (by rw [u8s_len, hy] at hj; exact hj))) rfl rfl ?_
  refine sd_pu rfl (pu_eqI (as00 := x) (bs := y) rfl rfl hx hy) rfl rfl ?_
  by_cases hxy : x = y
  ·refine sd_know 16 (.bool true) rfl (congrArg Value.bool (decide_eq_true hxy)) ?_
   refine sd_nil ?_
   (refine sn_then ?_; refine sw_cond_t rfl ?_; refine sw_seq (sw_region ?_); (iterate 2 refine so_1 rfl ?_); refine so_nil (sn_then ?_); refine sw_ret ?_; refine sn_block_ret ?_; refine sn_then_ret ?_; refine sn_loop_ret ?_; refine sn_block_ret ?_; refine sn_then_ret ?_)
   refine sn_ret rfl (.tmp rfl .nil) (ent_keep 1 [] rfl rfl) ?_
   exact ⟨⟨i, rfl, by rw [decide_eq_true (by omega), decide_eq_true (by rw [hxy]; exact hmem)]⟩, rfl⟩
  ·refine sd_know 16 (.bool false) rfl (congrArg Value.bool (decide_eq_false hxy)) ?_
   refine sd_nil ?_
   (refine sn_then ?_; refine sw_cond_f rfl ?_; refine sw_skip ?_; refine sn_block ?_; refine sn_then ?_; refine sw_region ?_; refine so_2 rfl (by (unfold I64; omega)) ?_; refine so_1 rfl ?_; refine so_nil ?_)
   refine sn_round (i + 1) ⟨rfl, rfl, rfl, rfl, trivial⟩ (Ent.refl _) ⟨h', ?_⟩ (by omega)
   rw [htk]
   simp [hk, hxy]
 ·(refine sw_exit ?_; refine sn_then_exit ?_; refine sn_loop_exit ?_; refine sn_block_exit ?_; refine sn_then ?_; refine sw_seq (sw_region ?_); refine so_1 rfl ?_; refine so_nil (sn_then ?_); refine sw_ret ?_)
  refine sn_ret rfl (.tmp rfl .nil) (ent_keep 1 [] rfl rfl) ?_
  refine ⟨⟨-1, rfl, ?_⟩, rfl⟩
  rw [List.take_of_length_le (by omega)] at hk
  rw [decide_eq_false hk]; rfl
theorem ContainsID_S {va : Value} {l : List (List Int)} {x : List Int} (ha : ∀ w, Sat b F w → SL w 32 va l.length (idsC l)) (hl : len32 l) (hx : x.length = 32) (hm : l.length ≤ 1000000) :
  SC Tryz.prog n_slices_Contains_sl_api_ID_api_ID [va, idV x] b F (fun v F' => v = .bool (decide (x ∈ l)) ∧ F' = F) := by
 refine enterS F_slices_Contains_sl_api_ID_api_ID rfl rfl rfl ?_
 (refine sw_seq (sw_region ?_))
 refine so_box rfl rfl rfl rfl rfl fun g3 => ?_
 (refine so_1 rfl ?_; refine so_nil (sn_then ?_); refine sw_seq (sw_region ?_); refine so_1 rfl ?_)
 refine so_ldA 0 rfl rfl rfl rfl rfl rfl (segID hx) rfl ?_
 refine so_call rfl rfl rfl (IndexID_S (up ha (ent_keep 1 [] rfl rfl)) hl hx hm) ?_
 rintro _ _ ⟨⟨i, rfl, hi⟩, rfl⟩
 ((iterate 2 refine so_1 rfl ?_); refine so_nil (sn_then ?_); refine sw_ret ?_)
 refine sn_ret rfl (.tmp rfl .nil) (ent_keep 1 [] rfl rfl) ?_
 exact ⟨congrArg Value.bool hi, rfl⟩
theorem refs1_S {x : List Int} {w0 : Int} {g5 : Nat} (hx : x.length = 32) : SC Tryz.prog n_event_refs_1 [idV x, .pointer (some ⟨g5, 0, none⟩)] b (pt g5 t_int [.int .i64 w0] :: F) (fun v F' => v = .bool (!hasM x w0) ∧ F' = pt g5 t_int [.int .i64 w0] :: F) := by
 refine enterS F_event_refs_1 rfl rfl rfl ?_
 (refine sw_seq (sw_region ?_))
 refine so_box rfl rfl rfl rfl rfl fun g2 => ?_
 (refine so_1 rfl ?_; refine so_nil (sn_then ?_); refine sw_seq (sw_region ?_))
 refine so_ldA 0 rfl rfl rfl rfl rfl rfl (segID hx) rfl ?_
 (refine so_l 1 rfl rfl rfl ?_)
 refine so_callE rfl rfl rfl (Has_S hx) ?_
 ((iterate 2 refine so_1 rfl ?_); refine so_nil (sn_then ?_); refine sw_ret ?_)
 refine sn_ret rfl (.tmp rfl .nil) (ent_keep 1 [] rfl rfl) ?_
 exact ⟨rfl, rfl⟩
abbrev refsFn (g5 : Nat) : Value := .func (.func n_event_refs_1) ⟨[]⟩ ⟨[.pointer (some ⟨g5, 0, none⟩)]⟩
theorem IxIDf_S {va : Value} {l : List (List Int)} {w0 : Int} {g5 : Nat} (ha : ∀ w, Sat b (pt g5 t_int [.int .i64 w0] :: F) w → SL w 32 va l.length (idsC l)) (hl : len32 l) (hm : l.length ≤ 1000000) :
  SC Tryz.prog n_slices_IndexFunc_sl_api_ID_api_ID [va, refsFn g5] b (pt g5 t_int [.int .i64 w0] :: F) (fun v F' => (∃ i : Int, v = .int .i64 i ∧ decide (0 ≤ i) = !(l.all fun x => hasM x w0)) ∧ F' = pt g5 t_int [.int .i64 w0] :: F) := by
 refine enterS F_slices_IndexFunc_sl_api_ID_api_ID rfl rfl rfl ?_
 refine sw_fact (fun w H => sl_form (ha w H)) ?_
 rintro ⟨A, c, rfl, h1, h2, h3, h4, _⟩
 (refine sw_seq (sw_region ?_); refine so_1 rfl ?_; refine so_nil (sn_then ?_); (iterate 2 refine sw_seq ?_); refine sw_region ?_; (iterate 3 refine so_1 rfl ?_); refine so_nil (sn_then ?_); refine sw_block ?_)
 refine sw_loop (S := Nat) (fun i => [(0, .slice A l.length c), (1, refsFn g5), (7, .int .i64 l.length), (8, .int .i64 (i : Int))]) (fun _ => pt g5 t_int [.int .i64 w0] :: F) (fun i => i ≤ l.length ∧ ((l.take i).all fun x => hasM x w0) = true) (fun i => l.length - i) 0 ⟨rfl, rfl, rfl, rfl, trivial⟩ (Ent.refl _) ⟨Nat.zero_le _, rfl⟩ ?_
 rintro i ⟨hi, hk⟩
 (refine sw_seq (sw_region ?_); refine so_1 rfl ?_; refine so_nil (sn_then ?_); refine sw_seq ?_)
 refine sw_if rfl (fun h => ?_) (fun h => ?_)
 ·have h' : i < l.length := by omega
  obtain ⟨gA, oA, rfl⟩ := h4 (by omega)
  have ca := id_cells ha hl h'
  have hy := hl _ (List.getElem_mem h')
  have hmem := List.getElem_mem h'
  have htk := List.take_succ_eq_append_getElem h'
  generalize l[i] = y at ca hy hmem htk
  (refine sw_skip ?_; refine sn_then ?_; refine sw_seq ?_; refine sw_block ?_; refine sw_seq (sw_region ?_); (iterate 2 refine so_1 rfl ?_); refine so_nil (sn_then ?_); refine sw_seq (sw_region ?_); (iterate 3 refine so_1 rfl ?_); refine so_2 rfl (by omega) ?_)
  refine so_rd rfl (fun w H => ex_loadN (cs := u8s y) rfl rfl rfl (by rw [u8s_len, hy]; rfl) (fun j hj => by rw [mulz_eq, Int.toNat_natCast]; exact ca w H j (by rw [u8s_len, hy] at hj; exact hj))) rfl ?_
  refine so_callE rfl rfl rfl (refs1_S hy) ?_
  cases hh : hasM y w0 with
  | false =>
   (refine so_nil (sn_then ?_); refine sw_cond_t rfl ?_; refine sw_seq (sw_region ?_); (iterate 2 refine so_1 rfl ?_); refine so_nil (sn_then ?_); refine sw_ret ?_; refine sn_block_ret ?_; refine sn_then_ret ?_; refine sn_loop_ret ?_; refine sn_block_ret ?_; refine sn_then_ret ?_)
   refine sn_ret rfl (.tmp rfl .nil) (Ent.refl _) ?_
   refine ⟨⟨i, rfl, ?_⟩, rfl⟩
   rw [decide_eq_true (by omega), eq_comm]
   cases hall : l.all fun x => hasM x w0 with
   | false => rfl
   | true => have := List.all_eq_true.1 hall y hmem; rw [hh] at this; cases this
  | true =>
   (refine so_nil (sn_then ?_); refine sw_cond_f rfl ?_; refine sw_skip ?_; refine sn_block ?_; refine sn_then ?_; refine sw_region ?_; refine so_2 rfl (by (unfold I64; omega)) ?_; refine so_1 rfl ?_; refine so_nil ?_)
   refine sn_round (i + 1) ⟨rfl, rfl, rfl, rfl, trivial⟩ (Ent.refl _) ⟨h', ?_⟩ (by omega)
   rw [htk, List.all_append, hk]
   simp [hh]
 ·(refine sw_exit ?_; refine sn_then_exit ?_; refine sn_loop_exit ?_; refine sn_block_exit ?_; refine sn_then ?_; refine sw_seq (sw_region ?_); refine so_1 rfl ?_; refine so_nil (sn_then ?_); refine sw_ret ?_)
  refine sn_ret rfl (.tmp rfl .nil) (Ent.refl _) ?_
  refine ⟨⟨-1, rfl, ?_⟩, rfl⟩
  rw [List.take_of_length_le (by omega)] at hk
  rw [hk]; rfl
theorem CFnID_S {va : Value} {l : List (List Int)} {w0 : Int} {g5 : Nat} (ha : ∀ w, Sat b (pt g5 t_int [.int .i64 w0] :: F) w → SL w 32 va l.length (idsC l)) (hl : len32 l) (hm : l.length ≤ 1000000) :
  SC Tryz.prog n_slices_ContainsFunc_sl_api_ID_api_ID [va, refsFn g5] b (pt g5 t_int [.int .i64 w0] :: F) (fun v F' => v = .bool (!(l.all fun x => hasM x w0)) ∧ F' = pt g5 t_int [.int .i64 w0] :: F) := by
 refine enterS F_slices_ContainsFunc_sl_api_ID_api_ID rfl rfl rfl ?_
 (refine sw_seq (sw_region ?_); refine so_1 rfl ?_; refine so_nil (sn_then ?_); refine sw_seq (sw_region ?_); (iterate 2 refine so_1 rfl ?_))
 refine so_call rfl rfl rfl (IxIDf_S ha hl hm) ?_
 rintro _ _ ⟨⟨i, rfl, hi⟩, rfl⟩
 ((iterate 2 refine so_1 rfl ?_); refine so_nil (sn_then ?_); refine sw_ret ?_)
 refine sn_ret rfl (.tmp rfl .nil) (Ent.refl _) ?_
 exact ⟨congrArg Value.bool hi, rfl⟩
end

abbrev fnV (f : Nat) : Value := .func (.func f) ⟨[]⟩ ⟨[]⟩
def kindsC : List Value := [fnV n_event_plain, fnV n_event_given, .bool true, fnV n_event_plain, fnV n_event_given, .bool false, fnV n_event_tagged, fnV n_event_given, .bool true, fnV n_event_tagged, fnV n_event_none, .bool false]
theorem riseB_true {l : List (List Int)} (h : ∀ i, i + 1 < l.length → cmpM (l[i]?.getD []) (l[i + 1]?.getD []) < 0) : riseB l = true := by
 unfold riseB
 rw [List.all_eq_true]
 intro i hi
 have := List.mem_range.1 hi
 exact decide_eq_true (h i (by omega))
theorem riseB_false {l : List (List Int)} {i : Nat} (hi : i + 1 < l.length) (h : ¬ cmpM (l[i]?.getD []) (l[i + 1]?.getD []) < 0) : riseB l = false := by
 cases hr : riseB l with
 | false => rfl
 | true =>
  unfold riseB at hr
  have := List.all_eq_true.1 hr i (List.mem_range.2 (by omega))
  exact absurd (of_decide_eq_true this) h
section
variable {b : World} {F : List SP} {e : Ev}
theorem eplain_S {s : ByteArray} : SC Tryz.prog n_event_plain [.string s] b F (fun v F' => v = .int .i64 (if s.size = 0 then 0 else 2) ∧ F' = F) := by
 refine enterS F_event_plain rfl rfl rfl ?_
 (refine sw_seq (sw_region ?_); refine so_1 rfl ?_; refine so_nil (sn_then ?_); (iterate 2 refine sw_seq ?_); refine sw_region ?_; (iterate 2 refine so_1 rfl ?_); refine so_nil (sn_then ?_))
 refine sw_ifn rfl (fun h1 => ?_) (fun h1 => ?_)
 ·have hz : s.size ≠ 0 := fun h0 => h1 (by first | exact Array.eq_empty_of_size_eq_zero h0 | exact ByteArray.ext (Array.eq_empty_of_size_eq_zero h0))
  (refine sw_seq (sw_region ?_); refine so_1 rfl ?_; refine so_nil (sn_then ?_); refine sw_ret ?_; refine sn_then_ret ?_)
  refine sn_ret rfl (.tmp rfl .nil) (Ent.refl _) ?_
  rw [if_neg hz]; exact ⟨rfl, rfl⟩
 ·have hz : s.size = 0 := by show s.data.size = 0; rw [h1]; rfl
  (refine sw_skip ?_; refine sn_then ?_; refine sw_seq (sw_region ?_); refine so_1 rfl ?_; refine so_nil (sn_then ?_); refine sw_ret ?_)
  refine sn_ret rfl (.tmp rfl .nil) (Ent.refl _) ?_
  rw [if_pos hz]; exact ⟨rfl, rfl⟩
theorem etagged_S {s : ByteArray} : SC Tryz.prog n_event_tagged [.string s] b F (fun v F' => v = .int .i64 (if tagF (strI s) = (0, 0) then 0 else 7) ∧ F' = F) := by
 refine enterS F_event_tagged rfl rfl rfl ?_
 (refine sw_seq (sw_region ?_); refine so_1 rfl ?_; refine so_nil (sn_then ?_); (iterate 2 refine sw_seq ?_); refine sw_region ?_; refine so_1 rfl ?_)
 refine so_callE rfl rfl rfl (Tag_S) ?_
 (refine so_1 rfl ?_)
 refine so_pu rfl (pu_neA rfl rfl (eq_fault (tagF (strI s)).1 (tagF (strI s)).2 0 0)) rfl ?_
 by_cases h : tagF (strI s) = (0, 0)
 ·rw [if_pos h, h]
  (refine so_nil (sn_then ?_); refine sw_cond_f rfl ?_; refine sw_skip ?_; refine sn_then ?_; refine sw_seq (sw_region ?_); refine so_1 rfl ?_; refine so_nil (sn_then ?_); refine sw_ret ?_)
  refine sn_ret rfl (.tmp rfl .nil) (Ent.refl _) ?_
  exact ⟨rfl, rfl⟩
 ·rw [if_neg h]
  refine so_know 6 (.bool true) rfl (by
   have : ¬ ((tagF (strI s)).1 = 0 ∧ (tagF (strI s)).2 = 0) := fun hc => h (Prod.ext hc.1 hc.2)
   rw [decide_eq_false this]; rfl) ?_
  (refine so_nil (sn_then ?_); refine sw_cond_t rfl ?_; refine sw_seq (sw_region ?_); refine so_1 rfl ?_; refine so_nil (sn_then ?_); refine sw_ret ?_; refine sn_then_ret ?_)
  refine sn_ret rfl (.tmp rfl .nil) (Ent.refl _) ?_
  exact ⟨rfl, rfl⟩
theorem egiven_S {x : List Int} {w : Int} (hx : x.length = 32) : SC Tryz.prog n_event_given [idV x, .int .i64 w] b F (fun v F' => v = .int .i64 (if hasM x w = true then 0 else 8) ∧ F' = F) := by
 refine enterS F_event_given rfl rfl rfl ?_
 (refine sw_seq (sw_region ?_))
 refine so_box rfl rfl rfl rfl rfl fun g2 => ?_
 (refine so_1 rfl ?_; refine so_nil (sn_then ?_); (iterate 2 refine sw_seq ?_); refine sw_region ?_)
 refine so_ldA 0 rfl rfl rfl rfl rfl rfl (segID hx) rfl ?_
 (refine so_1 rfl ?_)
 refine so_callE rfl rfl rfl (Has_S hx) ?_
 (refine so_1 rfl ?_; refine so_nil (sn_then ?_))
 cases h : hasM x w with
 | true =>
  (refine sw_cond_f rfl ?_; refine sw_skip ?_; refine sn_then ?_; refine sw_seq (sw_region ?_); refine so_1 rfl ?_; refine so_nil (sn_then ?_); refine sw_ret ?_)
  refine sn_ret rfl (.tmp rfl .nil) (ent_keep 1 [] rfl rfl) ?_
  exact ⟨rfl, rfl⟩
 | false =>
  (refine sw_cond_t rfl ?_; refine sw_seq (sw_region ?_); refine so_1 rfl ?_; refine so_nil (sn_then ?_); refine sw_ret ?_; refine sn_then_ret ?_)
  refine sn_ret rfl (.tmp rfl .nil) (ent_keep 1 [] rfl rfl) ?_
  exact ⟨rfl, rfl⟩
theorem enone_S {x : List Int} {w : Int} (hx : x.length = 32) : SC Tryz.prog n_event_none [idV x, .int .i64 w] b F (fun v F' => v = .int .i64 (if x = List.replicate 32 0 then 0 else 8) ∧ F' = F) := by
 refine enterS F_event_none rfl rfl rfl ?_
 (refine sw_seq (sw_region ?_))
 refine so_box rfl rfl rfl rfl rfl fun g2 => ?_
 (refine so_1 rfl ?_; refine so_nil (sn_then ?_); (iterate 2 refine sw_seq ?_); refine sw_region ?_)
 refine so_ldA 0 rfl rfl rfl rfl rfl rfl (segID hx) rfl ?_
 (refine so_1 rfl ?_)
 refine so_know 6 (idV (List.replicate 32 0)) rfl rfl ?_
 refine so_pu rfl (pu_neI (as00 := x) (bs := List.replicate 32 0) rfl rfl hx rfl) rfl ?_
 by_cases h : x = List.replicate 32 0
 ·rw [if_pos h]
  refine so_know 7 (.bool false) rfl (by rw [decide_eq_true h]; rfl) ?_
  (refine so_nil (sn_then ?_); refine sw_cond_f rfl ?_; refine sw_skip ?_; refine sn_then ?_; refine sw_seq (sw_region ?_); refine so_1 rfl ?_; refine so_nil (sn_then ?_); refine sw_ret ?_)
  refine sn_ret rfl (.tmp rfl .nil) (ent_keep 1 [] rfl rfl) ?_
  exact ⟨rfl, rfl⟩
 ·rw [if_neg h]
  refine so_know 7 (.bool true) rfl (by rw [decide_eq_false h]; rfl) ?_
  (refine so_nil (sn_then ?_); refine sw_cond_t rfl ?_; refine sw_seq (sw_region ?_); refine so_1 rfl ?_; refine so_nil (sn_then ?_); refine sw_ret ?_; refine sn_then_ret ?_)
  refine sn_ret rfl (.tmp rfl .nil) (ent_keep 1 [] rfl rfl) ?_
  exact ⟨rfl, rfl⟩
theorem kinds_S : SC Tryz.prog n_event_kinds [] b F (fun v F' => v = .agg ⟨kindsC⟩ ∧ F' = F) := by
 refine enterS F_event_kinds rfl rfl rfl ?_
 (refine sw_seq (sw_region ?_))
 refine so_new rfl rfl rfl rfl rfl fun g0 => ?_
 (refine so_nil (sn_then ?_); refine sw_seq (sw_region ?_); (iterate 5 refine so_1 rfl ?_); refine so_s1 0 rfl rfl rfl rfl ?_; refine so_nil (sn_then ?_); refine sw_ret ?_)
 refine sn_ret rfl (.agg 0 rfl rfl rfl rfl rfl .nil) (ent_keep 1 [] rfl rfl) ?_
 exact ⟨rfl, rfl⟩
set_option maxRecDepth 20000 in
set_option maxHeartbeats 1000000 in
theorem erefs_S {asked : Bool} {w0 : Int} (he : ∀ w, Sat b F w → ER w e) (hw : EW e) (hl : EvL e) : SC Tryz.prog n_event_refs [evV e, .bool asked, .int .i64 w0] b F (fun v F' => v = .int .i64 (refsE e asked w0) ∧ F' = F) := by
 have h32 := hw.l32
 have hr32 := hw.r32
 have hrn := hl.rn
 refine enterS F_event_refs rfl rfl rfl ?_
 refine sw_fact (fun w H => sl_form (he w H).rv) ?_
 rintro ⟨A, c, hrv, h1, h2, h3, h4, _⟩
 (refine sw_seq (sw_region ?_))
 refine so_box rfl rfl rfl rfl rfl fun g3 => ?_
 skip
 refine so_box rfl rfl rfl rfl rfl fun g5 => ?_
 (refine so_1 rfl ?_; refine so_nil (sn_then ?_); refine sw_seq (sw_region ?_); refine so_1 rfl ?_)
 refine so_ld 1 rfl rfl rfl rfl rfl rfl (evC_rv h32) rfl ?_
 have her : ∀ w, Sat b (pt g5 t_int [.int .i64 w0] :: pt g3 t_api_Event (evC e) :: F) w → SL w 32 (.slice A e.refs.length c) e.refs.length (idsC e.refs) := fun w H => by rw [← hrv]; exact (he w (H.ent (ent_keep 2 [] rfl rfl))).rv
 rw [hrv]
 (refine so_1 rfl ?_; refine so_nil (sn_then ?_); (iterate 2 refine sw_seq ?_); refine sw_region ?_; (iterate 2 refine so_1 rfl ?_); refine so_nil (sn_then ?_))
 cases asked with
 | false =>
  (refine sw_cond_t rfl ?_; (iterate 2 refine sw_seq ?_); refine sw_region ?_; (iterate 3 refine so_1 rfl ?_); refine so_nil (sn_then ?_))
  refine sw_if rfl (fun h => ?_) (fun h => ?_)
  ·(refine sw_seq (sw_region ?_); refine so_1 rfl ?_; refine so_nil (sn_then ?_); refine sw_ret ?_; (iterate 2 refine sn_then_ret ?_))
   refine sn_ret rfl (.tmp rfl .nil) (ent_keep 2 [] rfl rfl) ?_
   unfold refsE; rw [if_pos rfl, if_neg (by omega)]
   exact ⟨rfl, rfl⟩
  ·(refine sw_skip ?_; refine sn_then ?_; refine sw_seq (sw_region ?_); refine so_1 rfl ?_; refine so_nil (sn_then ?_); refine sw_ret ?_; refine sn_then_ret ?_)
   refine sn_ret rfl (.tmp rfl .nil) (ent_keep 2 [] rfl rfl) ?_
   unfold refsE; rw [if_pos rfl, if_pos (by omega)]
   exact ⟨rfl, rfl⟩
 | true =>
  have hr : refsE e true w0 = if e.refs.length = 0 ∨ 256 < e.refs.length ∨ e.id ∉ e.refs ∨ riseB e.refs = false then 2 else if (e.refs.all fun x => hasM x w0) = true then 0 else 8 := by unfold refsE; rw [if_neg (by simp)]
  (refine sw_cond_f rfl ?_; refine sw_skip ?_; refine sn_then ?_; (iterate 2 refine sw_seq ?_); refine sw_region ?_; (iterate 4 refine so_1 rfl ?_))
  refine so_if 19 rfl (fun k1 => ?_) (fun k1 => ?_)
  ·rw [if_pos (.inl (by omega))] at hr
   ((iterate 11 refine so_1 rfl ?_); refine so_nil (sn_then ?_); refine sw_cond_t rfl ?_; refine sw_seq (sw_region ?_); refine so_1 rfl ?_; refine so_nil (sn_then ?_); refine sw_ret ?_; refine sn_then_ret ?_)
   refine sn_ret rfl (.tmp rfl .nil) (ent_keep 2 [] rfl rfl) ?_
   rw [hr]; exact ⟨rfl, rfl⟩
  ((iterate 5 refine so_1 rfl ?_))
  refine so_if 24 rfl (fun k2 => ?_) (fun k2 => ?_)
  ·rw [if_pos (.inr (.inl (by omega)))] at hr
   ((iterate 6 refine so_1 rfl ?_); refine so_nil (sn_then ?_); refine sw_cond_t rfl ?_; refine sw_seq (sw_region ?_); refine so_1 rfl ?_; refine so_nil (sn_then ?_); refine sw_ret ?_; refine sn_then_ret ?_)
   refine sn_ret rfl (.tmp rfl .nil) (ent_keep 2 [] rfl rfl) ?_
   rw [hr]; exact ⟨rfl, rfl⟩
  ((iterate 2 refine so_1 rfl ?_))
  refine so_ldA 1 rfl rfl rfl rfl rfl rfl (evC_id h32) rfl ?_
  refine so_callE rfl rfl rfl (ContainsID_S her hr32 h32 hrn) ?_
  ((iterate 2 refine so_1 rfl ?_); refine so_nil (sn_then ?_))
  by_cases k3 : e.id ∉ e.refs
  ·rw [if_pos (.inr (.inr (.inl k3)))] at hr
   rw [decide_eq_false k3]
   (refine sw_cond_t rfl ?_; refine sw_seq (sw_region ?_); refine so_1 rfl ?_; refine so_nil (sn_then ?_); refine sw_ret ?_; refine sn_then_ret ?_)
   refine sn_ret rfl (.tmp rfl .nil) (ent_keep 2 [] rfl rfl) ?_
   rw [hr]; exact ⟨rfl, rfl⟩
  have k3' : e.id ∈ e.refs := Decidable.byContradiction k3
  rw [decide_eq_true k3']
  obtain ⟨gA, oA, rfl⟩ := h4 (by omega)
  (refine sw_cond_f rfl ?_; refine sw_skip ?_; refine sn_then ?_; (iterate 2 refine sw_seq ?_); refine sw_region ?_; refine so_1 rfl ?_; refine so_2 rfl (by omega) ?_; (iterate 2 refine so_1 rfl ?_); refine so_nil (sn_then ?_); refine sw_block ?_)
  refine sw_loop (S := Nat) (fun i => [(7, .slice (some ⟨gA, oA, none⟩) e.refs.length c), (5, .pointer (some ⟨g5, 0, none⟩)), (33, .int .i64 ((e.refs.length - 1 : Nat) : Int)), (34, .int .i64 (i : Int))]) (fun _ => pt g5 t_int [.int .i64 w0] :: pt g3 t_api_Event (evC e) :: F) (fun i => i ≤ e.refs.length - 1 ∧ ∀ j, j < i → cmpM (e.refs[j]?.getD []) (e.refs[j + 1]?.getD []) < 0) (fun i => e.refs.length - 1 - i) 0 ⟨rfl, rfl, rfl, rfl, trivial⟩ (Ent.refl _) ⟨Nat.zero_le _, fun j hj => absurd hj (Nat.not_lt_zero j)⟩ ?_
  rintro i ⟨hi, hk⟩
  (refine sw_seq (sw_region ?_); refine so_1 rfl ?_; refine so_nil (sn_then ?_); refine sw_seq ?_)
  refine sw_if rfl (fun h => ?_) (fun h => ?_)
  ·have i1 : i < e.refs.length := by omega
   have i2 : i + 1 < e.refs.length := by omega
   have ca := id_cells her hr32 i1
   have cb := id_cells her hr32 i2
   have hx := hr32 _ (List.getElem_mem i1)
   have hy := hr32 _ (List.getElem_mem i2)
   have ex : e.refs[i]?.getD [] = e.refs[i] := by rw [List.getElem?_eq_getElem i1]; rfl
   have ey : e.refs[i + 1]?.getD [] = e.refs[i + 1] := by rw [List.getElem?_eq_getElem i2]; rfl
   have hsucc : ((i : Int) + 1).toNat = i + 1 := by omega
   generalize e.refs[i] = x at ca hx ex
   generalize e.refs[i + 1] = y at cb hy ey
   (refine sw_skip ?_; refine sn_then ?_; refine sw_seq ?_; refine sw_block ?_; refine sw_seq (sw_region ?_); (iterate 2 refine so_1 rfl ?_); refine so_nil (sn_then ?_); refine sw_seq ?_)
   refine sw_draw flo _ (by decide +kernel) (Ent.refl _) ?_
   ((iterate 2 refine sd_1 rfl (.inl rfl) ?_); refine sd_2 rfl rfl (by omega) ?_)
   refine sd_rd rfl (fun w H => ex_loadN (cs := u8s x) rfl rfl rfl (by rw [u8s_len, hx]; rfl) (fun j hj => by rw [mulz_eq, Int.toNat_natCast]; exact ca w H j (by rw [u8s_len, hx] at hj; exact hj))) rfl rfl ?_
   ((iterate 2 refine sd_1 rfl (.inl rfl) ?_); refine sd_2 rfl rfl (by (unfold I64; omega)) ?_; refine sd_2 rfl rfl (by omega) ?_)
   refine sd_rd rfl (fun w H => ex_loadN (cs := u8s y) rfl rfl rfl (by rw [u8s_len, hy]; rfl) (fun j hj => by rw [mulz_eq, hsucc]; exact cb w H j (by rw [u8s_len, hy] at hj; exact hj))) rfl rfl ?_
   refine sd_callE rfl rfl rfl rfl ((Compare_S hx hy)) (Ent.refl _) ?_
   (refine sd_1 rfl (.inl rfl) ?_)
   refine sd_nil ?_
   (refine sn_then ?_)
   refine sw_if rfl (fun h5 => ?_) (fun h5 => ?_)
   ·rw [if_pos (.inr (.inr (.inr (riseB_false i2 (by rw [ex, ey]; omega)))))] at hr
    (refine sw_seq (sw_region ?_); refine so_1 rfl ?_; refine so_nil (sn_then ?_); refine sw_ret ?_; refine sn_block_ret ?_; refine sn_then_ret ?_; refine sn_loop_ret ?_; refine sn_block_ret ?_; refine sn_then_ret ?_)
    refine sn_ret rfl (.tmp rfl .nil) (ent_keep 2 [] rfl rfl) ?_
    rw [hr]; exact ⟨rfl, rfl⟩
   ·(refine sw_skip ?_; refine sn_block ?_; refine sn_then ?_; refine sw_region ?_; refine so_2 rfl (by (unfold I64; omega)) ?_; refine so_1 rfl ?_; refine so_nil ?_)
    rw [show (i : Int) + 1 = ((i + 1 : Nat) : Int) by omega]
    refine sn_round (i + 1) ⟨rfl, rfl, rfl, rfl, trivial⟩ (Ent.refl _) ⟨by omega, fun j hj => ?_⟩ (by omega)
    by_cases e9 : j = i
    ·subst e9; rw [ex, ey]; omega
    ·exact hk j (by omega)
  have hrise := riseB_true (l := e.refs) fun j hj => hk j (by omega)
  rw [if_neg (by
   rintro (h9 | h9 | h9 | h9)
   ·omega
   ·omega
   ·exact h9 k3'
   ·rw [hrise] at h9; cases h9)] at hr
  (refine sw_exit ?_; refine sn_then_exit ?_; refine sn_loop_exit ?_; refine sn_block_exit ?_; refine sn_then ?_; (iterate 2 refine sw_seq ?_); refine sw_region ?_; (iterate 2 refine so_1 rfl ?_))
  refine so_callE rfl rfl rfl (CFnID_S her hr32 hrn) ?_
  (refine so_nil (sn_then ?_))
  cases hall : e.refs.all fun x => hasM x w0 with
  | true =>
   rw [hall] at hr
   (refine sw_cond_f rfl ?_; refine sw_skip ?_; refine sn_then ?_; refine sw_seq (sw_region ?_); refine so_1 rfl ?_; refine so_nil (sn_then ?_); refine sw_ret ?_)
   refine sn_ret rfl (.tmp rfl .nil) (ent_keep 2 [] rfl rfl) ?_
   rw [hr]; exact ⟨rfl, rfl⟩
  | false =>
   rw [hall] at hr
   (refine sw_cond_t rfl ?_; refine sw_seq (sw_region ?_); refine so_1 rfl ?_; refine so_nil (sn_then ?_); refine sw_ret ?_; refine sn_then_ret ?_)
   refine sn_ret rfl (.tmp rfl .nil) (ent_keep 2 [] rfl rfl) ?_
   rw [hr]; exact ⟨rfl, rfl⟩
end

section
variable {b : World} {F : List SP} {e : Ev}
theorem ways (b : World) (h32 : e.id.length = 32) (hk : 1 ≤ e.kind ∧ e.kind ≤ 4) (w : Int) : ∃ ft fi : Nat, Bodied Tryz.prog ft ∧ Bodied Tryz.prog fi ∧ ((kindsC.drop ((e.kind - 1).toNat * 3)).take 3 = [fnV ft, fnV fi, .bool (decide (e.kind = 1 ∨ e.kind = 3))]) ∧
  (∀ G, SC Tryz.prog ft [.string e.tag] b G (fun v F' => v = .int .i64 (tagE e) ∧ F' = G)) ∧ (∀ G, SC Tryz.prog fi [idV e.id, .int .i64 w] b G (fun v F' => v = .int .i64 (idE e w) ∧ F' = G)) := by
 have : e.kind = 1 ∨ e.kind = 2 ∨ e.kind = 3 ∨ e.kind = 4 := by omega
 rcases this with h | h | h | h
 ·refine ⟨n_event_plain, n_event_given, inferInstance, inferInstance, by rw [h]; rfl, fun G => ?_, fun G => ?_⟩
  ·have e1 : tagE e = if e.tag.size = 0 then 0 else 2 := by unfold tagE; rw [if_neg (by omega)]
   rw [e1]; exact eplain_S
  ·have e1 : idE e w = if hasM e.id w = true then 0 else 8 := by unfold idE; rw [if_neg (by omega)]
   rw [e1]; exact egiven_S h32
 ·refine ⟨n_event_plain, n_event_given, inferInstance, inferInstance, by rw [h]; rfl, fun G => ?_, fun G => ?_⟩
  ·have e1 : tagE e = if e.tag.size = 0 then 0 else 2 := by unfold tagE; rw [if_neg (by omega)]
   rw [e1]; exact eplain_S
  ·have e1 : idE e w = if hasM e.id w = true then 0 else 8 := by unfold idE; rw [if_neg (by omega)]
   rw [e1]; exact egiven_S h32
 ·refine ⟨n_event_tagged, n_event_given, inferInstance, inferInstance, by rw [h]; rfl, fun G => ?_, fun G => ?_⟩
  ·have e1 : tagE e = if tagF (strI e.tag) = (0, 0) then 0 else 7 := by unfold tagE; rw [if_pos (by omega)]
   rw [e1]; exact etagged_S
  ·have e1 : idE e w = if hasM e.id w = true then 0 else 8 := by unfold idE; rw [if_neg (by omega)]
   rw [e1]; exact egiven_S h32
 ·refine ⟨n_event_tagged, n_event_none, inferInstance, inferInstance, by rw [h]; rfl, fun G => ?_, fun G => ?_⟩
  ·have e1 : tagE e = if tagF (strI e.tag) = (0, 0) then 0 else 7 := by unfold tagE; rw [if_pos (by omega)]
   rw [e1]; exact etagged_S
  ·have e1 : idE e w = if e.id = List.replicate 32 0 then 0 else 8 := by unfold idE; rw [if_pos h]
   rw [e1]; exact enone_S h32
set_option maxRecDepth 20000 in
set_option maxHeartbeats 2000000 in
theorem Check_S {n w0 : Int} (he : ∀ w, Sat b F w → ER w e) (hw : EW e) (hl : EvL e) : SC Tryz.prog n_event_Check [evV e, .int .i64 n, .int .i64 w0] b F (fun v F' => v = .int .i64 (chkE e n w0) ∧ F' = F) := by
 have h32 := hw.l32
 have d3 := hw.kind
 unfold I64 at d3
 have her : ∀ g3 w, Sat b (pt g3 t_api_Event (evC e) :: F) w → ER w e := fun g3 => up he (ent_keep 1 [] rfl rfl)
 refine enterS F_event_Check rfl rfl rfl ?_
 refine sw_fact (fun w H => er_form (he w H)) ?_
 rintro ⟨o1, o2⟩
 have xl := evC_len h32
 have x1 := evC_one o1 o2
 (refine sw_seq (sw_region ?_))
 refine so_box rfl rfl rfl rfl rfl fun g3 => ?_
 (refine so_1 rfl ?_; refine so_nil (sn_then ?_); refine sw_seq ?_; refine sw_block ?_; refine sw_seq (sw_region ?_); (iterate 3 refine so_1 rfl ?_))
 by_cases k1 : n < 1
 ·have hr : chkE e n w0 = 3 := by unfold chkE; rw [if_pos (by omega)]
  refine so_know 13 (.bool true) rfl (congrArg Value.bool (decide_eq_true k1)) ?_
  ((iterate 12 refine so_1 rfl ?_); refine so_nil (sn_then ?_); refine sw_cond_t rfl ?_; refine sw_seq (sw_region ?_); refine so_1 rfl ?_; refine so_nil (sn_then ?_); refine sw_ret ?_; refine sn_block_ret ?_; refine sn_then_ret ?_)
  refine sn_ret rfl (.tmp rfl .nil) (ent_keep 1 [] rfl rfl) ?_
  rw [hr]; exact ⟨rfl, rfl⟩
 refine so_know 13 (.bool false) rfl (congrArg Value.bool (decide_eq_false k1)) ?_
 ((iterate 4 refine so_1 rfl ?_))
 by_cases k2 : 16 < n
 ·have hr : chkE e n w0 = 3 := by unfold chkE; rw [if_pos (by omega)]
  refine so_know 17 (.bool true) rfl (congrArg Value.bool (decide_eq_true k2)) ?_
  ((iterate 8 refine so_1 rfl ?_); refine so_nil (sn_then ?_); refine sw_cond_t rfl ?_; refine sw_seq (sw_region ?_); refine so_1 rfl ?_; refine so_nil (sn_then ?_); refine sw_ret ?_; refine sn_block_ret ?_; refine sn_then_ret ?_)
  refine sn_ret rfl (.tmp rfl .nil) (ent_keep 1 [] rfl rfl) ?_
  rw [hr]; exact ⟨rfl, rfl⟩
 refine so_know 17 (.bool false) rfl (congrArg Value.bool (decide_eq_false k2)) ?_
 ((iterate 4 refine so_1 rfl ?_))
 by_cases k3 : w0 < 1
 ·have hr : chkE e n w0 = 3 := by unfold chkE; rw [if_pos (by omega)]
  refine so_know 21 (.bool true) rfl (congrArg Value.bool (decide_eq_true k3)) ?_
  ((iterate 4 refine so_1 rfl ?_); refine so_nil (sn_then ?_); refine sw_cond_t rfl ?_; refine sw_seq (sw_region ?_); refine so_1 rfl ?_; refine so_nil (sn_then ?_); refine sw_ret ?_; refine sn_block_ret ?_; refine sn_then_ret ?_)
  refine sn_ret rfl (.tmp rfl .nil) (ent_keep 1 [] rfl rfl) ?_
  rw [hr]; exact ⟨rfl, rfl⟩
 refine so_know 21 (.bool false) rfl (congrArg Value.bool (decide_eq_false k3)) ?_
 ((iterate 4 refine so_1 rfl ?_); refine so_nil (sn_then ?_))
 refine sw_if rfl (fun k4 => ?_) (fun k4 => ?_)
 ·have hr : chkE e n w0 = 3 := by unfold chkE; rw [if_pos (by omega)]
  (refine sw_seq (sw_region ?_); refine so_1 rfl ?_; refine so_nil (sn_then ?_); refine sw_ret ?_; refine sn_block_ret ?_; refine sn_then_ret ?_)
  refine sn_ret rfl (.tmp rfl .nil) (ent_keep 1 [] rfl rfl) ?_
  rw [hr]; exact ⟨rfl, rfl⟩
 have hr : chkE e n w0 = if placedB e n = false then 2 else if e.kind < 1 ∨ 4 < e.kind then 5 else if repoF (strI e.repo) ≠ (0, 0) then 7 else if tagE e ≠ 0 then tagE e else if idE e w0 ≠ 0 then idE e w0 else refsE e (decide (e.kind = 1 ∨ e.kind = 3)) w0 := by
  unfold chkE; rw [if_neg (by omega)]
 (refine sw_seq (sw_region ?_))
 refine so_ldA 0 rfl rfl rfl rfl rfl rfl (segO_all (by rw [xl]; rfl)) rfl ?_
 (refine so_1 rfl ?_)
 refine so_callE rfl rfl rfl (eplaced_S (her g3) hw.dot hl.dn) ?_
 ((iterate 2 refine so_1 rfl ?_); refine so_nil (sn_then ?_))
 cases hp : placedB e n with
 | false =>
  rw [if_pos hp] at hr
  (refine sw_cond_t rfl ?_; refine sw_seq (sw_region ?_); refine so_1 rfl ?_; refine so_nil (sn_then ?_); refine sw_ret ?_; refine sn_block_ret ?_; refine sn_then_ret ?_)
  refine sn_ret rfl (.tmp rfl .nil) (ent_keep 1 [] rfl rfl) ?_
  rw [hr]; exact ⟨rfl, rfl⟩
 | true =>
  rw [if_neg (by rw [hp]; simp)] at hr
  (refine sw_cond_f rfl ?_; refine sw_seq (sw_region ?_); refine so_1 rfl ?_; refine so_l 0 rfl rfl rfl ?_; (iterate 2 refine so_1 rfl ?_))
  by_cases k5 : e.kind < 1
  ·rw [if_pos (.inl k5)] at hr
   refine so_know 34 (.bool true) rfl (congrArg Value.bool (decide_eq_true k5)) ?_
   ((iterate 5 refine so_1 rfl ?_); refine so_nil (sn_then ?_); refine sw_cond_t rfl ?_; refine sw_seq (sw_region ?_); refine so_1 rfl ?_; refine so_nil (sn_then ?_); refine sw_ret ?_; refine sn_block_ret ?_; refine sn_then_ret ?_)
   refine sn_ret rfl (.tmp rfl .nil) (ent_keep 1 [] rfl rfl) ?_
   rw [hr]; exact ⟨rfl, rfl⟩
  refine so_know 34 (.bool false) rfl (congrArg Value.bool (decide_eq_false k5)) ?_
  (refine so_1 rfl ?_; refine so_l 0 rfl rfl rfl ?_; (iterate 3 refine so_1 rfl ?_); refine so_nil (sn_then ?_))
  refine sw_if rfl (fun k6 => ?_) (fun k6 => ?_)
  ·rw [if_pos (.inr k6)] at hr
   (refine sw_seq (sw_region ?_); refine so_1 rfl ?_; refine so_nil (sn_then ?_); refine sw_ret ?_; refine sn_block_ret ?_; refine sn_then_ret ?_)
   refine sn_ret rfl (.tmp rfl .nil) (ent_keep 1 [] rfl rfl) ?_
   rw [hr]; exact ⟨rfl, rfl⟩
  rw [if_neg (by omega)] at hr
  (refine sw_seq (sw_region ?_); refine so_1 rfl ?_; refine so_l 0 rfl rfl rfl ?_)
  refine so_callE rfl rfl rfl (Repo_S) ?_
  (refine so_1 rfl ?_)
  refine so_pu rfl (pu_neA rfl rfl (eq_fault (repoF (strI e.repo)).1 (repoF (strI e.repo)).2 0 0)) rfl ?_
  by_cases k7 : repoF (strI e.repo) ≠ (0, 0)
  ·rw [if_pos k7] at hr
   refine so_know 44 (.bool true) rfl (by
    have : ¬ ((repoF (strI e.repo)).1 = 0 ∧ (repoF (strI e.repo)).2 = 0) := fun hc => k7 (Prod.ext hc.1 hc.2)
    rw [decide_eq_false this]; rfl) ?_
   (refine so_1 rfl ?_; refine so_nil (sn_then ?_); refine sw_cond_t rfl ?_; refine sw_seq (sw_region ?_); refine so_1 rfl ?_; refine so_nil (sn_then ?_); refine sw_ret ?_; refine sn_block_ret ?_; refine sn_then_ret ?_)
   refine sn_ret rfl (.tmp rfl .nil) (ent_keep 1 [] rfl rfl) ?_
   rw [hr]; exact ⟨rfl, rfl⟩
  rw [if_neg k7] at hr
  have k7' : repoF (strI e.repo) = (0, 0) := Decidable.byContradiction k7
  refine so_know 44 (.bool false) rfl (by rw [k7']; rfl) ?_
  obtain ⟨ft, fi, _, _, hway, hft, hfi⟩ := ways b h32 (by omega : 1 ≤ e.kind ∧ e.kind ≤ 4) w0
  (refine so_1 rfl ?_; refine so_nil (sn_then ?_); refine sw_cond_f rfl ?_; refine sw_skip ?_; refine sn_block ?_; refine sn_then ?_; refine sw_seq ?_)
  refine sw_float (fl := flo) 5 7 (pt g3 t_api_Event (evC e) :: F) (by decide +kernel) rfl rfl rfl rfl (Ent.refl _) ?_
  skip
  refine sv_callE rfl rfl rfl rfl rfl rfl rfl (fun A => kinds_S) (Ent.refl _) ?_
  (refine sv_1 rfl rfl rfl rfl (.inl rfl) ?_; refine sv_l 0 rfl rfl rfl rfl rfl rfl rfl ?_; refine sv_2 rfl rfl rfl rfl rfl (by (unfold I64; omega)) ?_)
  refine sv_pu rfl rfl rfl rfl (pu_ixA rfl rfl rfl rfl rfl ⟨by omega, by show _ < (4 : Int); omega⟩ hway) rfl rfl ?_
  (refine sv_at ?_)
  refine sv_join rfl (by decide +kernel) rfl fun g7 => ⟨ent_keep 1 [] rfl rfl, ?_⟩
  refine sd_stW 0 rfl rfl rfl rfl rfl rfl rfl rfl rfl (by simp [Value.oneCell']) rfl (ent_keep 1 [] rfl rfl) ?_
  refine sd_nil ?_
  have her7 : ∀ w, Sat b (pt g7 t_event_what [fnV ft, fnV fi, .bool (decide (e.kind = 1 ∨ e.kind = 3))] :: pt g3 t_api_Event (evC e) :: F) w → ER w e := up he (ent_keep 2 [] rfl rfl)
  (refine sn_then ?_; (iterate 2 refine sw_seq ?_))
  refine sw_draw flo _ (by decide +kernel) (Ent.refl _) ?_
  (refine sd_1 rfl (.inl rfl) ?_; refine sd_l 0 rfl rfl rfl rfl ?_; refine sd_1 rfl (.inl rfl) ?_; refine sd_l 1 rfl rfl rfl rfl ?_)
  refine sd_callE rfl rfl rfl rfl ((hft _)) (Ent.refl _) ?_
  (refine sd_1 rfl (.inl rfl) ?_; refine sd_l 0 rfl rfl rfl rfl ?_; refine sd_1 rfl (.inl rfl) ?_)
  refine sd_ldA 1 rfl rfl rfl rfl rfl rfl (evC_id h32) rfl rfl ?_
  (refine sd_1 rfl (.inl rfl) ?_)
  refine sd_callE rfl rfl rfl rfl ((hfi _)) (Ent.refl _) ?_
  refine sd_ldA 1 rfl rfl rfl rfl rfl rfl (segO_all (by rw [xl]; rfl)) rfl rfl ?_
  (refine sd_1 rfl (.inl rfl) ?_; refine sd_l 0 rfl rfl rfl rfl ?_; refine sd_1 rfl (.inl rfl) ?_)
  refine sd_callE rfl rfl rfl rfl ((erefs_S her7 hw hl)) (Ent.refl _) ?_
  generalize refsE e (decide (e.kind = 1 ∨ e.kind = 3)) w0 = x3 at hr ⊢
  generalize tagE e = x1' at hr ⊢
  generalize idE e w0 = x2 at hr ⊢
  ((iterate 2 refine sd_1 rfl (.inl rfl) ?_))
  refine sd_nil ?_
  (refine sn_then ?_; refine sw_block ?_)
  refine sw_loop (S := Nat) (fun i => [(66, .agg ⟨[.int .i64 x1', .int .i64 x2, .int .i64 x3]⟩), (67, .int .i64 (i : Int))]) (fun _ => F) (fun i => i ≤ 3 ∧ (1 ≤ i → x1' = 0) ∧ (2 ≤ i → x2 = 0) ∧ (3 ≤ i → x3 = 0)) (fun i => 3 - i) 0 ⟨rfl, rfl, trivial⟩ (ent_keep 2 [] rfl rfl) ⟨by omega, by omega, by omega, by omega⟩ ?_
  rintro i ⟨hi, j1, j2, j3⟩
  (refine sw_seq (sw_region ?_); refine so_1 rfl ?_; refine so_nil (sn_then ?_); refine sw_seq ?_)
  refine sw_if rfl (fun h => ?_) (fun h => ?_)
  ·have h3 : i = 0 ∨ i = 1 ∨ i = 2 := by omega
   rcases h3 with rfl | rfl | rfl
   ·(refine sw_skip ?_; refine sn_then ?_; refine sw_seq ?_; refine sw_block ?_; refine sw_seq (sw_region ?_); refine so_2 rfl (by (simp; done)) ?_; refine so_1 rfl ?_; refine so_nil (sn_then ?_); refine sw_seq (sw_region ?_); (iterate 2 refine so_1 rfl ?_); refine so_nil (sn_then ?_))
    refine sw_ifn rfl (fun h5 => ?_) (fun h5 => ?_)
    ·rw [if_pos h5] at hr
     (refine sw_seq (sw_region ?_); (iterate 2 refine so_1 rfl ?_); refine so_nil (sn_then ?_); refine sw_ret ?_; refine sn_block_ret ?_; refine sn_then_ret ?_; refine sn_loop_ret ?_; refine sn_block_ret ?_; refine sn_then_ret ?_)
     refine sn_ret rfl (.tmp rfl .nil) (Ent.refl _) ?_
     rw [hr]; exact ⟨rfl, rfl⟩
    ·(refine sw_skip ?_; refine sn_block ?_; refine sn_then ?_; refine sw_region ?_; refine so_2 rfl (by (unfold I64; omega)) ?_; refine so_1 rfl ?_; refine so_nil ?_)
     exact sn_round 1 ⟨rfl, rfl, trivial⟩ (Ent.refl _) ⟨by omega, fun _ => h5, by omega, by omega⟩ (by omega)
   ·have := j1 (by omega)
    (refine sw_skip ?_; refine sn_then ?_; refine sw_seq ?_; refine sw_block ?_; refine sw_seq (sw_region ?_); refine so_2 rfl (by (simp; done)) ?_; refine so_1 rfl ?_; refine so_nil (sn_then ?_); refine sw_seq (sw_region ?_); (iterate 2 refine so_1 rfl ?_); refine so_nil (sn_then ?_))
    refine sw_ifn rfl (fun h5 => ?_) (fun h5 => ?_)
    ·rw [if_neg (by omega), if_pos h5] at hr
     (refine sw_seq (sw_region ?_); (iterate 2 refine so_1 rfl ?_); refine so_nil (sn_then ?_); refine sw_ret ?_; refine sn_block_ret ?_; refine sn_then_ret ?_; refine sn_loop_ret ?_; refine sn_block_ret ?_; refine sn_then_ret ?_)
     refine sn_ret rfl (.tmp rfl .nil) (Ent.refl _) ?_
     rw [hr]; exact ⟨rfl, rfl⟩
    ·(refine sw_skip ?_; refine sn_block ?_; refine sn_then ?_; refine sw_region ?_; refine so_2 rfl (by (unfold I64; omega)) ?_; refine so_1 rfl ?_; refine so_nil ?_)
     exact sn_round 2 ⟨rfl, rfl, trivial⟩ (Ent.refl _) ⟨by omega, fun _ => this, fun _ => h5, by omega⟩ (by omega)
   ·have t1 := j1 (by omega)
    have t2 := j2 (by omega)
    rw [if_neg (by omega), if_neg (by omega)] at hr
    (refine sw_skip ?_; refine sn_then ?_; refine sw_seq ?_; refine sw_block ?_; refine sw_seq (sw_region ?_); refine so_2 rfl (by (simp; done)) ?_; refine so_1 rfl ?_; refine so_nil (sn_then ?_); refine sw_seq (sw_region ?_); (iterate 2 refine so_1 rfl ?_); refine so_nil (sn_then ?_))
    refine sw_ifn rfl (fun h5 => ?_) (fun h5 => ?_)
    ·(refine sw_seq (sw_region ?_); (iterate 2 refine so_1 rfl ?_); refine so_nil (sn_then ?_); refine sw_ret ?_; refine sn_block_ret ?_; refine sn_then_ret ?_; refine sn_loop_ret ?_; refine sn_block_ret ?_; refine sn_then_ret ?_)
     refine sn_ret rfl (.tmp rfl .nil) (Ent.refl _) ?_
     rw [hr]; exact ⟨rfl, rfl⟩
    ·(refine sw_skip ?_; refine sn_block ?_; refine sn_then ?_; refine sw_region ?_; refine so_2 rfl (by (unfold I64; omega)) ?_; refine so_1 rfl ?_; refine so_nil ?_)
     exact sn_round 3 ⟨rfl, rfl, trivial⟩ (Ent.refl _) ⟨by omega, fun _ => t1, fun _ => t2, fun _ => h5⟩ (by omega)
  ·obtain rfl : i = 3 := by omega
   rw [if_neg (by rw [j1 (by omega)]; simp), if_neg (by rw [j2 (by omega)]; simp), j3 (by omega)] at hr
   (refine sw_exit ?_; refine sn_then_exit ?_; refine sn_loop_exit ?_; refine sn_block_exit ?_; refine sn_then ?_; refine sw_seq (sw_region ?_); refine so_1 rfl ?_; refine so_nil (sn_then ?_); refine sw_ret ?_)
   refine sn_ret rfl (.tmp rfl .nil) (Ent.refl _) ?_
   rw [hr]; exact ⟨rfl, rfl⟩
end

section
variable {b : World} {F : List SP}
end

section
variable {b : World} {F : List SP} {e : Ev}
end

section
variable {b : World} {F : List SP} {e : Ev}
end

section
variable {b : World} {F : List SP} {e : Ev}
end

section
variable {b : World} {F : List SP} {e : Ev}
end
open Go.WideMaps

section
variable {b : World} {F : List SP} {e f : Ev}
set_option maxHeartbeats 2000000 in
theorem SameIDs_D {va vb : Value} {l m : List (List Int)} (ha : ∀ w, Sat b F w → SL w 32 va l.length (idsC l)) (hb : ∀ w, Sat b F w → SL w 32 vb m.length (idsC m)) (hl : len32 l) (hm : len32 m) : SC Tryz.prog n_entrepotkit_SameIDs [va, vb] b F (fun v F' => v = .bool (decide (l = m)) ∧ F' = F) := by
 refine enterS F_entrepotkit_SameIDs rfl rfl rfl ?_
 refine sw_fact (fun w H => sl_form (ha w H)) ?_
 rintro ⟨A, c, rfl, h1, h2, h3, h4, _⟩
 refine sw_fact (fun w H => sl_form (hb w H)) ?_
 rintro ⟨B, d, rfl, q1, q2, q3, q4, _⟩
 (refine sw_seq (sw_region ?_); refine so_1 rfl ?_; refine so_nil (sn_then ?_); refine sw_seq (sw_region ?_); (iterate 6 refine so_1 rfl ?_); refine so_nil (sn_then ?_); (iterate 2 refine sw_seq ?_); refine sw_region ?_; refine so_1 rfl ?_; refine so_nil (sn_then ?_); refine sw_block ?_)
 refine sw_loop (S := Nat × Bool) (fun s => [(0, .slice A l.length c), (1, .slice B m.length d), (5, .bool s.2), (6, .int .i64 (s.1 : Int))]) (fun _ => F) (fun s => s.1 ≤ l.length ∧ (s.2 = true → l.length = m.length ∧ ∀ k (hk : k < l.length) (hk2 : k < m.length), k < s.1 → l[k] = m[k]) ∧ (s.2 = false → l ≠ m)) (fun s => l.length - s.1) (0, decide (l.length = m.length)) ⟨rfl, rfl, ?_, rfl, trivial⟩ (Ent.refl _) ⟨Nat.zero_le _, fun h => ⟨by simpa using h, fun k _ _ hk => absurd hk (Nat.not_lt_zero _)⟩, fun h hh => by rw [hh] at h; simp at h⟩ ?_
 ·exact congrArg (fun q => some (Value.bool q)) (decide_eq_decide.2 (by omega))
 rintro ⟨i, q⟩ ⟨hi, ht, hf⟩
 dsimp only at hi ht hf ⊢
 cases q with
 | false =>
  have hne := hf rfl
  ((iterate 2 refine sw_seq ?_); refine sw_region ?_; (iterate 7 refine so_1 rfl ?_); refine so_nil (sn_then ?_); refine sw_cond_f rfl ?_; refine sw_exit ?_; refine sn_then_exit ?_; refine sn_loop_exit ?_; refine sn_block_exit ?_; refine sn_then ?_; refine sw_seq (sw_region ?_); (iterate 2 refine so_1 rfl ?_); refine so_nil (sn_then ?_); refine sw_ret ?_)
  refine sn_ret rfl (.tmp rfl .nil) (Ent.refl _) ?_
  exact ⟨congrArg Value.bool (decide_eq_false hne).symm, rfl⟩
 | true =>
 obtain ⟨hlm, hall⟩ := ht rfl
 ((iterate 2 refine sw_seq ?_); refine sw_region ?_; (iterate 7 refine so_1 rfl ?_); refine so_nil (sn_then ?_))
 refine sw_if rfl (fun g1 => ?_) (fun g1 => ?_)
 ·have g1' : i < l.length := by omega
  have g2' : i < m.length := by omega
  obtain ⟨gA, oA, rfl⟩ := h4 (by omega)
  obtain ⟨gB, oB, rfl⟩ := q4 (by omega)
  have hx := hl _ (List.getElem_mem g1')
  have hy := hm _ (List.getElem_mem g2')
  have ca : ∀ w, Sat b F w → ∀ j, j < 32 → w.cell? ⟨gA, oA + i * 32 + j, none⟩ = (u8s l[i])[j]? := fun w H j hj => fl_cell (f := u8s) (by rw [← idsC_fl]; exact ha w H) (fun a h => by rw [u8s_len, hl a h]) g1' hj
  have cb : ∀ w, Sat b F w → ∀ j, j < 32 → w.cell? ⟨gB, oB + i * 32 + j, none⟩ = (u8s m[i])[j]? := fun w H j hj => fl_cell (f := u8s) (by rw [← idsC_fl]; exact hb w H) (fun a h => by rw [u8s_len, hm a h]) g2' hj
  have hex : l = m → l[i] = m[i] := fun h => by subst h; rfl
  have hstep : l[i] = m[i] → ∀ k (hk : k < l.length) (hk2 : k < m.length), k < i + 1 → l[k] = m[k] := fun h k hk hk2 hki => by
   by_cases e : k = i
   ·subst e; exact h
   ·exact hall k hk hk2 (by omega)
  generalize l[i] = x at *
  generalize m[i] = y at *
  (refine sw_skip ?_; refine sn_then ?_; refine sw_seq ?_; refine sw_block ?_)
  refine sw_draw flo _ (by decide +kernel) (Ent.refl _) ?_
  ((iterate 2 refine sd_1 rfl (.inl rfl) ?_); refine sd_2 rfl rfl (by omega) ?_)
  refine sd_rd rfl (fun w H => ex_loadN (cs := u8s x) rfl rfl rfl (by rw [u8s_len, hx]; rfl) (fun j hj => by rw [mulz_eq, Int.toNat_natCast]; exact ca w H j (by rw [u8s_len, hx] at hj; exact hj))) rfl rfl ?_
  ((iterate 2 refine sd_1 rfl (.inl rfl) ?_); refine sd_2 rfl rfl (by omega) ?_)
  refine sd_rd rfl (fun w H => ex_loadN (cs := u8s y) rfl rfl rfl (by rw [u8s_len, hy]; rfl) (fun j hj => by rw [mulz_eq, Int.toNat_natCast]; exact cb w H j (by rw [u8s_len, hy] at hj; exact hj))) rfl rfl ?_
  refine sd_pu rfl (pu_eqI (as00 := x) (bs := y) rfl rfl hx hy) rfl rfl ?_
  (refine sd_1 rfl (.inl rfl) ?_)
  refine sd_nil ?_
  (refine sn_block ?_; refine sn_then ?_; refine sw_region ?_; refine so_1 rfl ?_; refine so_2 rfl (by (unfold I64; omega)) ?_; refine so_1 rfl ?_; refine so_nil ?_)
  refine sn_round (i + 1, decide (x = y)) ⟨rfl, rfl, rfl, rfl, trivial⟩ (Ent.refl _) ⟨by dsimp only; omega, fun h => ⟨hlm, hstep (by simpa using h)⟩, fun h hh => ?_⟩ (by dsimp only; omega)
  have h' : x ≠ y := by simpa using h
  exact h' (hex hh)
 ·(refine sw_exit ?_; refine sn_then_exit ?_; refine sn_loop_exit ?_; refine sn_block_exit ?_; refine sn_then ?_; refine sw_seq (sw_region ?_); (iterate 2 refine so_1 rfl ?_); refine so_nil (sn_then ?_); refine sw_ret ?_)
  refine sn_ret rfl (.tmp rfl .nil) (Ent.refl _) ?_
  refine ⟨congrArg Value.bool (decide_eq_true ?_).symm, rfl⟩
  exact List.ext_getElem hlm fun k hk hk2 => hall k hk hk2 (by omega)
end
end Go.Proofs.YtdmfcnjgdicncaaGreat
