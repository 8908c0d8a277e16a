/- Queues, part fifteen: what fits. Conditions: not too many. -/
import Derived.Test.YtdmfcnjgdicncaaGreatQ5
import Derived.LaidEqlPtr
import Derived.Test.YtdmfcnjgdicncaaGreatQ4
import Derived.Test.YtdmfcnjgdicncaaGreatQ3
namespace Go.Proofs.YtdmfcnjgdicncaaGreat
open Go.Eng Go.RowKit Go.WideMaps Go.Heap

def fitsB (n : Nat) (e : Ev) (src : Int) : Bool := decide (1 ≤ src ∧ src ≤ n ∧ 1 ≤ e.r ∧ e.r ≤ n ∧ 1 ≤ e.n ∧ e.n ≤ 1048576 ∧ e.deps.length = n ∧ numOk e.deps ∧ e.deps.getD (e.r - 1).toNat 0 = e.n - 1)
section
variable {b : World} {F : List SP} {gq gm : Nat} {v h : Value} {V : List Int} {R H : List Wn}
set_option maxRecDepth 20000 in
set_option maxHeartbeats 2000000 in
theorem fits_S {e : Ev} {src : Int} (he : ∀ w, Sat b (stH gq gm v V h R H F) w → VL (Value.int .i64) w e.dv e.deps) (hd : e.deps.length ≤ 1000000) :
  SC Tryz.prog n_p_hold_Queue_fits [.pointer (some ⟨gq, 0, none⟩), evV e, .int .i64 src] b (stH gq gm v V h R H F) (fun u F' => u = .bool (fitsB V.length e src) ∧ F' = stH gq gm v V h R H F) := by
 refine enterS F_p_hold_Queue_fits rfl rfl rfl ?_
 refine sw_fact (fun w H => (H.oat (k := 1) rfl).form) ?_
 rintro ⟨A1, c1, rfl, _, _, _⟩
 refine sw_fact (fun w H => (he w H).form) ?_
 rintro ⟨A2, c2, hv2, k1, k2, k3, k4⟩
 (refine sw_seq (sw_region ?_))
 refine so_box rfl rfl rfl rfl rfl fun g4 => ?_
 (refine so_1 rfl ?_; refine so_nil (sn_then ?_); refine sw_seq ?_)
 refine sw_draw flo (pt g4 t_api_Event (evC e) :: pt gq t_hold_Queue [.slice A1 V.length c1, h, .map (some gm)] :: F) (by decide +kernel) (ent_keep 6 [0, 1] rfl rfl) ?_
 ((iterate 3 refine sd_1 rfl (.inl rfl) ?_); refine sd_l 1 rfl rfl rfl rfl ?_; (iterate 2 refine sd_1 rfl (.inl rfl) ?_); refine sd_l 0 rfl rfl rfl rfl ?_)
 refine sd_new rfl rfl rfl rfl rfl rfl (ent_keep 6 [0, 1] rfl rfl) fun g8 => ?_
 (refine sd_1 rfl (.inl rfl) ?_)
 refine sd_stA 0 rfl rfl rfl rfl rfl rfl rfl rfl rfl rfl rfl rfl (ent_keep 7 [1, 2] rfl rfl) ?_
 skip
 refine sd_nil ?_
 (refine sn_then ?_; refine sw_seq ?_)
 refine sw_draw flo (pt g8 t_api_Dot [.int .i64 e.r, .int .i64 e.n] :: pt g4 t_api_Event (evC e) :: stH gq gm (.slice A1 V.length c1) V h R H F) (by decide +kernel) (Ent.refl _) ?_
 have no : ∀ (hf : ¬ (1 ≤ src ∧ src ≤ V.length ∧ 1 ≤ e.r ∧ e.r ≤ V.length ∧ 1 ≤ e.n ∧ e.n ≤ 1048576 ∧ e.deps.length = V.length ∧ numOk e.deps ∧ e.deps.getD (e.r - 1).toNat 0 = e.n - 1)), false = fitsB V.length e src := fun hf => (decide_eq_false hf).symm
 ((iterate 3 refine sd_1 rfl (.inl rfl) ?_))
 by_cases d0 : 1 ≤ src
 rotate_left
 ·refine sd_know 18 (.bool false) rfl (by simp; omega) ?_
  ((iterate 29 refine sd_1 rfl (.inl rfl) ?_); refine sd_1 rfl (.inr rfl) ?_; (iterate 15 refine sd_1 rfl (.inl rfl) ?_))
  refine sd_nil ?_
  (refine sn_then ?_; refine sw_ret ?_)
  refine sn_ret rfl (.tmp rfl .nil) (ent_keep 7 [2, 3, 4, 5, 6] rfl rfl) ?_
  exact ⟨congrArg Value.bool (no fun hh => by omega), rfl⟩
 refine sd_know 18 (.bool true) rfl (by simp; omega) ?_
 ((iterate 5 refine sd_1 rfl (.inl rfl) ?_))
 by_cases d1 : src ≤ (V.length : Int)
 rotate_left
 ·refine sd_know 23 (.bool false) rfl (by simp; omega) ?_
  ((iterate 24 refine sd_1 rfl (.inl rfl) ?_); refine sd_1 rfl (.inr rfl) ?_; (iterate 15 refine sd_1 rfl (.inl rfl) ?_))
  refine sd_nil ?_
  (refine sn_then ?_; refine sw_ret ?_)
  refine sn_ret rfl (.tmp rfl .nil) (ent_keep 7 [2, 3, 4, 5, 6] rfl rfl) ?_
  exact ⟨congrArg Value.bool (no fun hh => by omega), rfl⟩
 refine sd_know 23 (.bool true) rfl (by simp; omega) ?_
 (refine sd_1 rfl (.inl rfl) ?_; refine sd_l 0 rfl rfl rfl rfl ?_; (iterate 3 refine sd_1 rfl (.inl rfl) ?_))
 by_cases d2 : 1 ≤ e.r
 rotate_left
 ·refine sd_know 28 (.bool false) rfl (by simp; omega) ?_
  ((iterate 19 refine sd_1 rfl (.inl rfl) ?_); refine sd_1 rfl (.inr rfl) ?_; (iterate 15 refine sd_1 rfl (.inl rfl) ?_))
  refine sd_nil ?_
  (refine sn_then ?_; refine sw_ret ?_)
  refine sn_ret rfl (.tmp rfl .nil) (ent_keep 7 [2, 3, 4, 5, 6] rfl rfl) ?_
  exact ⟨congrArg Value.bool (no fun hh => by omega), rfl⟩
 refine sd_know 28 (.bool true) rfl (by simp; omega) ?_
 (refine sd_1 rfl (.inl rfl) ?_; refine sd_l 0 rfl rfl rfl rfl ?_; (iterate 4 refine sd_1 rfl (.inl rfl) ?_))
 by_cases d3 : e.r ≤ (V.length : Int)
 rotate_left
 ·refine sd_know 34 (.bool false) rfl (by simp; omega) ?_
  ((iterate 13 refine sd_1 rfl (.inl rfl) ?_); refine sd_1 rfl (.inr rfl) ?_; (iterate 15 refine sd_1 rfl (.inl rfl) ?_))
  refine sd_nil ?_
  (refine sn_then ?_; refine sw_ret ?_)
  refine sn_ret rfl (.tmp rfl .nil) (ent_keep 7 [2, 3, 4, 5, 6] rfl rfl) ?_
  exact ⟨congrArg Value.bool (no fun hh => by omega), rfl⟩
 refine sd_know 34 (.bool true) rfl (by simp; omega) ?_
 (refine sd_1 rfl (.inl rfl) ?_; refine sd_l 0 rfl rfl rfl rfl ?_; (iterate 3 refine sd_1 rfl (.inl rfl) ?_))
 by_cases d4 : 1 ≤ e.n
 rotate_left
 ·refine sd_know 39 (.bool false) rfl (by simp; omega) ?_
  ((iterate 8 refine sd_1 rfl (.inl rfl) ?_); refine sd_1 rfl (.inr rfl) ?_; (iterate 15 refine sd_1 rfl (.inl rfl) ?_))
  refine sd_nil ?_
  (refine sn_then ?_; refine sw_ret ?_)
  refine sn_ret rfl (.tmp rfl .nil) (ent_keep 7 [2, 3, 4, 5, 6] rfl rfl) ?_
  exact ⟨congrArg Value.bool (no fun hh => by omega), rfl⟩
 refine sd_know 39 (.bool true) rfl (by simp; omega) ?_
 (refine sd_1 rfl (.inl rfl) ?_; refine sd_l 0 rfl rfl rfl rfl ?_; (iterate 3 refine sd_1 rfl (.inl rfl) ?_))
 by_cases d5 : e.n ≤ 1048576
 rotate_left
 ·refine sd_know 44 (.bool false) rfl (by simp; omega) ?_
  ((iterate 3 refine sd_1 rfl (.inl rfl) ?_); refine sd_1 rfl (.inr rfl) ?_; (iterate 15 refine sd_1 rfl (.inl rfl) ?_))
  refine sd_nil ?_
  (refine sn_then ?_; refine sw_ret ?_)
  refine sn_ret rfl (.tmp rfl .nil) (ent_keep 7 [2, 3, 4, 5, 6] rfl rfl) ?_
  exact ⟨congrArg Value.bool (no fun hh => by omega), rfl⟩
 refine sd_know 44 (.bool true) rfl (by simp; omega) ?_
 (refine sd_1 rfl (.inl rfl) ?_; refine sd_l 1 rfl rfl rfl rfl ?_; refine sd_1 rfl (.inl rfl) ?_)
 refine sd_callE rfl rfl rfl rfl (numbers_S (up he (ent_keep 7 [2, 3, 4, 5, 6] rfl rfl)) hd) (Ent.refl _) ?_
 ((iterate 2 refine sd_1 rfl (.inl rfl) ?_))
 by_cases d6 : e.deps.length = V.length ∧ numOk e.deps
 rotate_left
 ·refine sd_know 50 (.bool false) rfl (congrArg Value.bool (by simpa using d6)) ?_
  ((iterate 13 refine sd_1 rfl (.inl rfl) ?_))
  refine sd_nil ?_
  (refine sn_then ?_; refine sw_ret ?_)
  refine sn_ret rfl (.tmp rfl .nil) (ent_keep 7 [2, 3, 4, 5, 6] rfl rfl) ?_
  exact ⟨congrArg Value.bool (no fun hh => d6 ⟨hh.2.2.2.2.2.2.1, hh.2.2.2.2.2.2.2.1⟩), rfl⟩
 refine sd_know 50 (.bool true) rfl (congrArg Value.bool (by simpa using d6)) ?_
 (refine sd_1 rfl (.inl rfl) ?_; refine sd_l 1 rfl rfl rfl rfl ?_; refine sd_1 rfl (.inl rfl) ?_; refine sd_l 0 rfl rfl rfl rfl ?_; refine sd_2 rfl rfl (by (unfold I64; omega)) ?_)
 obtain ⟨d7, d8⟩ := d6
 obtain ⟨k, hk⟩ : ∃ k : Nat, e.r - 1 = (k : Int) := ⟨(e.r - 1).toNat, by omega⟩
 have hkl : k < e.deps.length := by omega
 obtain ⟨bk, off, rfl⟩ := k4 (by omega)
 have hg : e.deps.getD (e.r - 1).toNat 0 = e.deps[k] := by rw [show (e.r - 1).toNat = k by omega, List.getD_eq_getElem?_getD, List.getElem?_eq_getElem hkl]; rfl
 have he2 : ∀ w, Sat b (pt g8 t_api_Dot [.int .i64 e.r, .int .i64 e.n] :: pt g4 t_api_Event (evC e) :: stH gq gm (.slice A1 V.length c1) V h R H F) w → VL (Value.int .i64) w (.slice (some ⟨bk, off, none⟩) e.deps.length c2) e.deps := fun w H => hv2 ▸ up he (ent_keep 7 [2, 3, 4, 5, 6] rfl rfl) w H
 refine sd_know 52 (.slice (some ⟨bk, off, none⟩) e.deps.length c2) rfl hv2 ?_
 (refine sd_2 rfl rfl (by omega) ?_)
 refine sd_rd rfl (fun w H => ex_load rfl rfl rfl (by rw [mulz_eq, show (e.r - 1).toNat = k by omega, Nat.mul_one]; exact VL.at (he2 w H) k hkl)) rfl rfl ?_
 (refine sd_1 rfl (.inl rfl) ?_; refine sd_l 0 rfl rfl rfl rfl ?_; refine sd_2 rfl rfl (by (unfold I64; omega)) ?_; (iterate 3 refine sd_1 rfl (.inl rfl) ?_))
 refine sd_nil ?_
 (refine sn_then ?_; refine sw_ret ?_)
 refine sn_ret rfl (.tmp rfl .nil) (ent_keep 7 [2, 3, 4, 5, 6] rfl rfl) ?_
 refine ⟨congrArg Value.bool ?_, rfl⟩
 rw [fitsB, hg]
 simp [d0, d1, d2, d3, d4, d5, d7, d8]
end

theorem wM_put (x : Wn) {H : List Wn} (h : getM (x.e.r, x.e.n) (wM H) = none) : putM (x.e.r, x.e.n) (.pointer (some ⟨x.g, 0, none⟩)) (wM H) = wM (H ++ [x]) := by
 induction H with
 | nil => rfl
 | cons e l ih =>
  simp only [wM, getM] at h
  split at h
  ·cases h
  ·rename_i hne
   simp only [wM, putM, List.cons_append, if_neg hne, ih h]
theorem wF_snoc {H : List Wn} {x : Wn} : (wF (H ++ [x])).Perm (wP x ++ wF H) := by
 have := wF_at (l1 := H) (l2 := []) (e := x)
 rwa [List.append_nil] at this
section
variable {b : World} {F : List SP} {gq gm : Nat} {v h : Value} {V : List Int} {R H : List Wn}
set_option maxRecDepth 20000 in
set_option maxHeartbeats 2000000 in
theorem hold_S {e : Ev} {s : Int} (h32 : ∀ e ∈ H, e.e.id.length = 32) (hs : ∀ e ∈ R, e ∈ H) (hn : R.length ≤ 100000) (he32 : e.id.length = 32) (hdot : dotOk (e.r, e.n)) (hno : getM (e.r, e.n) (wM H) = none)
  (ha : ∀ w, Sat b F w → VL (Value.int .i64) w e.dv e.deps) (hr : ∀ w, Sat b F w → SL w 32 e.rv e.refs.length (idsC e.refs)) (hd : e.deps.length ≤ 1000000) (hl : e.refs.length ≤ 1000000) :
  SC Tryz.prog n_p_hold_Queue_hold [.pointer (some ⟨gq, 0, none⟩), .agg ⟨wsC e s⟩] b (stH gq gm v V h R H F)
   (fun _ F' => ∃ g dv rv h', F' = stH gq gm v V h' (upG (R.length + 1) (R ++ [⟨g, e.own dv rv, s⟩]) R.length) (H ++ [⟨g, e.own dv rv, s⟩]) F) := by
 refine enterS F_p_hold_Queue_hold rfl rfl rfl ?_
 (refine sw_seq (sw_region ?_))
 refine so_box rfl rfl rfl rfl rfl fun g3 => ?_
 (refine so_nil (sn_then ?_); refine sw_seq (sw_region ?_))
 refine so_ldA 0 rfl rfl rfl rfl rfl rfl (segO_all (by rw [wsC_len he32]; rfl)) rfl ?_
 refine so_call rfl rfl rfl (own_S he32 (up ha (ent_keep 6 [] rfl rfl)) (up hr (ent_keep 6 [] rfl rfl)) hd hl) ?_
 rintro _ _ ⟨dv, rv, rfl, rfl⟩
 refine so_fact (fun w H => (H.oat (k := 0) rfl).form) ?_
 rintro ⟨A1, c1, rfl, _, _, _⟩
 refine so_fact (fun w H => (H.oat (k := 1) rfl).form) ?_
 rintro ⟨A2, c2, rfl, _, _, _⟩
 have h33 : (e.own (.slice A1 e.deps.length c1) (.slice A2 e.refs.length c2)).id.length = 32 := he32
 have hone := wsC_one (e := e.own (.slice A1 e.deps.length c1) (.slice A2 e.refs.length c2)) (s := s) rfl rfl
 refine so_stW 2 rfl rfl rfl rfl rfl rfl rfl (wsC_len h33) hone (by rw [wsC_len h33, wsC_len he32]) ?_
 (refine so_nil (sn_then ?_); refine sw_seq ?_)
 refine sw_draw flo (pt g3 t_api_Waiting (wsC (e.own (.slice A1 e.deps.length c1) (.slice A2 e.refs.length c2)) s) :: pt gq t_hold_Queue [v, h, .map (some gm)] :: F) (by decide +kernel) (ent_keep 8 [2, 3] rfl rfl) ?_
 ((iterate 3 refine sd_1 rfl (.inl rfl) ?_); refine sd_l 1 rfl rfl rfl rfl ?_; (iterate 2 refine sd_1 rfl (.inl rfl) ?_); refine sd_l 0 rfl rfl rfl rfl ?_)
 refine sd_put 6 dotMK hdot rfl rfl rfl rfl rfl rfl rfl rfl rfl (ent_keep 8 [2, 3] rfl rfl) ?_
 refine sd_nil ?_
 have hput := wM_put ⟨g3, e.own (.slice A1 e.deps.length c1) (.slice A2 e.refs.length c2), s⟩ (H := H) hno
 rw [show putM (e.r, e.n) (.pointer (some ⟨g3, 0, none⟩)) (wM H) = wM (H ++ [⟨g3, e.own (.slice A1 e.deps.length c1) (.slice A2 e.refs.length c2), s⟩]) from hput]
 (refine sn_then ?_; refine sw_region ?_)
 refine so_fact (fun w H => (H.oat (k := 5) rfl).form) ?_
 rintro ⟨A3, c3, rfl, _, _, _⟩
 refine so_ent (ent_keep 8 [2, 0, 1, 7, 3, 5, 4, 6] rfl rfl) ?_
 refine so_ent (ent_in (B := wP ⟨g3, e.own (.slice A1 e.deps.length c1) (.slice A2 e.refs.length c2), s⟩) (C := wF H) (A := wF (H ++ [⟨g3, e.own (.slice A1 e.deps.length c1) (.slice A2 e.refs.length c2), s⟩])) wF_snoc) ?_
 refine so_ent (ent_keep 5 [1, 2, 0, 3, 4] rfl rfl) ?_
 ((iterate 5 refine so_1 rfl ?_))
 have hpush := hPushW_S (b := b) (F := rZ v V :: mpH gm (H ++ [(⟨g3, e.own (.slice A1 e.deps.length c1) (.slice A2 e.refs.length c2), s⟩ : Wn)]) :: F) (A := A3) (c := c3) (n := R.length) (gh := gq) (t0 := t_hold_Queue) (off := 1) (cs := fun u => [v, u, .map (some gm)]) (x := (⟨g3, e.own (.slice A1 e.deps.length c1) (.slice A2 e.refs.length c2), s⟩ : Wn)) (l := R) (H := H ++ [(⟨g3, e.own (.slice A1 e.deps.length c1) (.slice A2 e.refs.length c2), s⟩ : Wn)]) (hcq _ _) (fun a ha => by
  rcases List.mem_append.1 ha with h | h
  ·exact h32 a h
  ·rw [List.mem_singleton.1 h]; exact he32) (fun a ha => List.mem_append_left _ (hs a ha)) (List.mem_append_right _ (List.mem_singleton.2 rfl)) rfl (by omega)
 refine so_call rfl rfl rfl (hpush) ?_
 rintro _ _ ⟨A', c', rfl⟩
 (refine so_nil ?_)
 refine sn_end rfl .nil (ent_keep 5 [0, 3, 1, 4, 2] rfl rfl) ?_
 refine ⟨g3, .slice A1 e.deps.length c1, .slice A2 e.refs.length c2, .slice A' (R.length + 1) c', ?_⟩
 have hlen : (upG (R.length + 1) (R ++ [⟨g3, e.own (.slice A1 e.deps.length c1) (.slice A2 e.refs.length c2), s⟩]) R.length).length = R.length + 1 := by rw [upG_len]; simp
 simp only [stH, rP, hlen]
end
open Go

theorem ex_eqp {P : Program} {E : List (Nat × Value)} {ty : TypeId} {w : World} {t t' te : TypeId} {j : TypeInfo} {x y : Operand} {g1 g2 t1 t2 : Nat} {c1 c2 : List Value} (hp : P.underlying t = some (.pointer te)) (hte : P.info? te = some j) (hsz : j.size ≠ 0)
  (hx : ev E x = some (.pointer (some ⟨g1, 0, none⟩))) (hy : ev E y = some (.pointer (some ⟨g2, 0, none⟩))) (b1 : Blk w g1 t1 c1) (b2 : Blk w g2 t2 c2) : Ex P E (.binOp .eql t x y t') ty w (.bool (decide (g1 = g2))) w := by
 intro ρ o hρ ho _
 have hr : (binOp .eql t (.pointer (some ⟨g1, 0, none⟩)) (.pointer (some ⟨g2, 0, none⟩))).run P w = .ok (.bool (decide (g1 = g2))) w := by
  by_cases e : g1 = g2
  ·subst e; rw [Go.run_eql_ptr_same w _ hp hte]; simp
  ·rw [Go.run_eql_ptr_other (a := ⟨g1, 0, none⟩) (b := ⟨g2, 0, none⟩) w hp hte hsz (fun h => e (congrArg Addr.block h)) b1 b2]; simp [e]
 have hg : (eqGuard .eql t x y (.pointer (some ⟨g1, 0, none⟩)) (.pointer (some ⟨g2, 0, none⟩))).run P w = .ok () w := by
  simp [eqGuard]
 simp [execOp, hg, ho, hρ _ _ hx, hρ _ _ hy, hr, Result.andThen]

theorem infoW : ∃ j, Tryz.prog.info? t_api_Waiting = some j ∧ j.size ≠ 0 := by
 have h : (Tryz.prog.info? t_api_Waiting).isSome = true := by kernel_rfl
 refine ⟨(Tryz.prog.info? t_api_Waiting).get h, by simp, ?_⟩
 have h2 : (((Tryz.prog.info? t_api_Waiting).get h).size == 0) = false := by kernel_rfl
 simpa using h2
section
variable {b : World} {F : List SP} {h : Value} {R H : List Wn} {e : Wn}
theorem Index_S {kk : Nat} (hF : nth F kk = some (all (wF H))) (hs : ∀ e ∈ R, e ∈ H) (ha : ∀ w, Sat b F w → SL w 1 h R.length (ptrs R)) (hn : R.length ≤ 100000) (he : e ∈ R) :
  SC Tryz.prog n_slices_Index_hold_waiting_p_api_Waiting [h, .pointer (some ⟨e.g, 0, none⟩)] b F (fun u F' => (∃ i : Nat, u = .int .i64 i ∧ ∃ hi : i < R.length, R[i].g = e.g) ∧ F' = F) := by
 refine enterS F_slices_Index_hold_waiting_p_api_Waiting rfl rfl rfl ?_
 refine sw_fact (fun w H => sl_form (ha w H)) ?_
 rintro ⟨A, c, rfl, h1, h2, h3, h4, _⟩
 (refine sw_seq (sw_region ?_); refine so_1 rfl ?_; refine so_nil (sn_then ?_); (iterate 2 refine sw_seq ?_); refine sw_region ?_; (iterate 3 refine so_1 rfl ?_); refine so_nil (sn_then ?_); refine sw_block ?_)
 refine sw_loop (S := Nat) (fun i => [(0, .slice A R.length c), (1, .pointer (some ⟨e.g, 0, none⟩)), (7, .int .i64 R.length), (8, .int .i64 (i : Int))]) (fun _ => F) (fun i => i ≤ R.length ∧ ∀ k (hk : k < R.length), k < i → R[k].g ≠ e.g) (fun i => R.length - i) 0 ⟨rfl, rfl, rfl, rfl, trivial⟩ (Ent.refl _) ⟨Nat.zero_le _, fun k _ h => absurd h (Nat.not_lt_zero k)⟩ ?_
 rintro i ⟨hi, hk⟩
 (refine sw_seq (sw_region ?_); refine so_1 rfl ?_; refine so_nil (sn_then ?_); refine sw_seq ?_)
 refine sw_if rfl (fun h => ?_) (fun h => ?_)
 ·have h' : i < R.length := by omega
  obtain ⟨bk, off, rfl⟩ := h4 (by omega)
  have ci : ∀ w, Sat b F w → w.cell? ⟨bk, off + i, none⟩ = some (.pointer (some ⟨R[i].g, 0, none⟩)) := fun w H => by
   obtain ⟨A', c', hv, hl, _, _, _, hc⟩ := ha w H
   cases hv
   obtain ⟨b', o', hA, _, hcc⟩ := hc (by omega)
   cases hA
   rw [hcc i (by simp; exact h')]; simp [ptrs, h']
  (refine sw_skip ?_; refine sn_then ?_; refine sw_seq ?_; refine sw_block ?_; refine sw_seq (sw_region ?_); (iterate 2 refine so_1 rfl ?_); refine so_nil (sn_then ?_); refine sw_seq (sw_region ?_); (iterate 3 refine so_1 rfl ?_); refine so_2 rfl (by omega) ?_)
  refine so_rd rfl (fun w H => ex_load rfl rfl rfl (by rw [mulz_eq, Int.toNat_natCast, Nat.mul_one]; exact ci w H)) rfl ?_
  skip
  obtain ⟨j, hj1, hj2⟩ := infoW
  refine so_rd rfl (fun w H => ex_eqp (by kernel_rfl) hj1 hj2 rfl rfl (wF_blk hF (hs _ he) w H) (wF_blk hF (hs _ (List.getElem_mem h')) w H)) rfl ?_
  by_cases hg : e.g = R[i].g
  ·refine so_know 16 (.bool true) rfl (congrArg Value.bool (decide_eq_true hg)) ?_
   (refine so_nil (sn_then ?_); refine sw_cond_t rfl ?_; refine sw_seq (sw_region ?_); (iterate 2 refine so_1 rfl ?_); refine so_nil (sn_then ?_); refine sw_ret ?_; refine sn_block_ret ?_; refine sn_then_ret ?_; refine sn_loop_ret ?_; refine sn_block_ret ?_; refine sn_then_ret ?_)
   refine sn_ret rfl (.tmp rfl .nil) (Ent.refl _) ?_
   exact ⟨⟨i, rfl, h', hg.symm⟩, rfl⟩
  ·refine so_know 16 (.bool false) rfl (congrArg Value.bool (decide_eq_false hg)) ?_
   (refine so_nil (sn_then ?_); refine sw_cond_f rfl ?_; refine sw_skip ?_; refine sn_block ?_; refine sn_then ?_; refine sw_region ?_; refine so_2 rfl (by (unfold I64; omega)) ?_; refine so_1 rfl ?_; refine so_nil ?_)
   refine sn_round (i + 1) ⟨rfl, rfl, rfl, rfl, trivial⟩ (Ent.refl _) ⟨h', fun k hkk hlt => ?_⟩ (by omega)
   by_cases e1 : k = i
   ·subst e1; exact fun hc => hg hc.symm
   ·exact hk k hkk (by omega)
 ·exfalso
  obtain ⟨k, hkk, rfl⟩ := List.mem_iff_getElem.1 he
  exact hk k hkk (by omega) rfl
end

section
variable {b : World} {F : List SP} {p : Value} (hn : ∀ A : List SP, SC Tryz.prog n_p_hold_Queue_none [p] b (A ++ F) (fun v F' => v = .bool true ∧ F' = A ++ F))
include hn
theorem NVector_S : SC Tryz.prog n_p_hold_Queue_Vector [p] b F (fun v F' => v = .slice none 0 0 ∧ F' = F) := by
 refine enterS F_p_hold_Queue_Vector rfl rfl rfl ?_
 (refine sw_seq (sw_region ?_); refine so_1 rfl ?_; refine so_nil (sn_then ?_); (iterate 2 refine sw_seq ?_); refine sw_region ?_; refine so_1 rfl ?_)
 refine so_callE rfl rfl rfl (hn []) ?_
 (refine so_nil (sn_then ?_); refine sw_cond_t rfl ?_; refine sw_seq (sw_region ?_); refine so_1 rfl ?_; refine so_nil (sn_then ?_); refine sw_ret ?_; refine sn_then_ret ?_)
 refine sn_ret rfl (.tmp rfl .nil) (Ent.refl _) ?_
 exact ⟨rfl, rfl⟩
abbrev ev0 : Ev := ⟨0, 0, .slice none 0 0, [], 0, ⟨#[]⟩, ⟨#[]⟩, List.replicate 32 0, .slice none 0 0, []⟩
end

abbrev dotW (w : Wn) : Int × Int := (w.e.r, w.e.n)
theorem leG_anti {a c : Wn} (h1 : leG a c) (h2 : leG c a) : dotW a = dotW c := by
 unfold leG at h1 h2
 rw [lt_Wn, ltE, lessL, decide_eq_true_eq] at h1 h2
 have h3 : a.e.r = c.e.r := by omega
 have h4 : a.e.n = c.e.n := by omega
 rw [dotW, dotW, h3, h4]
theorem dot_uniq {L : List Wn} (hnd : (L.map dotW).Nodup) {a c : Wn} (ha : a ∈ L) (hc : c ∈ L) (h : dotW a = dotW c) : a = c := by
 induction L with
 | nil => simp at ha
 | cons x L ih =>
  simp only [List.map_cons, List.nodup_cons] at hnd
  rcases List.mem_cons.1 ha with rfl | ha' <;> rcases List.mem_cons.1 hc with rfl | hc'
  ·rfl
  ·exact absurd (h ▸ List.mem_map.2 ⟨c, hc', rfl⟩) hnd.1
  ·exact absurd (h ▸ List.mem_map.2 ⟨a, ha', rfl⟩) hnd.1
  ·exact ih hnd.2 ha' hc'
theorem sorted_uniq {O L : List Wn} (h1 : O.Pairwise leG) (h2 : L.Pairwise leG) (hp : O.Perm L) (hnd : (L.map dotW).Nodup) : O = L :=
 List.Perm.eq_of_pairwise (fun _ _ ha hc h3 h4 => dot_uniq hnd (hp.subset ha) hc (leG_anti h3 h4)) h1 h2 hp
def findW (d : Int × Int) (L : List Wn) : Option Wn := L.find? fun w => decide (dotW w = d)
theorem findW_some {d : Int × Int} {L : List Wn} {x : Wn} (h : findW d L = some x) : x ∈ L ∧ dotW x = d :=
 ⟨List.mem_of_find?_eq_some h, by simpa using List.find?_some h⟩
theorem findW_none {d : Int × Int} {L : List Wn} (h : findW d L = none) : ∀ x ∈ L, dotW x ≠ d := by
 intro x hx
 have := List.find?_eq_none.1 h x hx
 simpa using this
theorem findW_of {d : Int × Int} {L : List Wn} {x : Wn} (hnd : (L.map dotW).Nodup) (hx : x ∈ L) (hd : dotW x = d) : findW d L = some x := by
 cases h : findW d L with
 | none => exact absurd hd (findW_none h x hx)
 | some y => rw [dot_uniq hnd (findW_some h).1 hx ((findW_some h).2.trans hd.symm)]
def insL (x : Wn) : List Wn → List Wn
 | [] => [x]
 | y :: l => if HOrd.lt y x = true then y :: insL x l else x :: y :: l
theorem insL_perm (x : Wn) (l : List Wn) : (insL x l).Perm (x :: l) := by
 induction l with
 | nil => exact .refl _
 | cons y l ih =>
  simp only [insL]
  split
  ·exact (List.Perm.cons y ih).trans (.swap _ _ _)
  ·exact .refl _
theorem insL_sorted {x : Wn} {l : List Wn} (h : l.Pairwise leG) : (insL x l).Pairwise leG := by
 induction l with
 | nil => exact List.pairwise_singleton _ _
 | cons y l ih =>
  simp only [insL]
  split
  ·rename_i hlt
   refine List.pairwise_cons.2 ⟨fun z hz => ?_, ih (List.pairwise_cons.1 h).2⟩
   rcases List.mem_cons.1 ((insL_perm x l).subset hz) with rfl | hz
   ·exact leG_of hlt
   ·exact (List.pairwise_cons.1 h).1 z hz
  ·rename_i hlt
   refine List.pairwise_cons.2 ⟨fun z hz => ?_, h⟩
   rcases List.mem_cons.1 hz with rfl | hz
   ·exact hlt
   ·exact leG_trans hlt ((List.pairwise_cons.1 h).1 z hz)
def setS (d : Int × Int) (s : Int) (w : Wn) : Wn := if dotW w = d then ⟨w.g, w.e, s⟩ else w
theorem setS_e (d : Int × Int) (s : Int) (w : Wn) : (setS d s w).e = w.e := by unfold setS; split <;> rfl
theorem setS_g (d : Int × Int) (s : Int) (w : Wn) : (setS d s w).g = w.g := by unfold setS; split <;> rfl
theorem setS_lt (d : Int × Int) (s : Int) (a c : Wn) : HOrd.lt (setS d s a) (setS d s c) = HOrd.lt a c := by rw [lt_Wn, lt_Wn, setS_e, setS_e]
theorem setS_nW (d : Int × Int) (s : Int) (w : Wn) : nW (setS d s w) = setS d s (nW w) := by
 unfold setS
 by_cases h : dotW w = d
 ·rw [if_pos h, if_pos (show dotW (nW w) = d from h)]; rfl
 ·rw [if_neg h, if_neg (show dotW (nW w) ≠ d from h)]
theorem pairwise_setS {L : List Wn} {d : Int × Int} {s : Int} (h : L.Pairwise leG) : (L.map (setS d s)).Pairwise leG := by
 rw [List.pairwise_map]
 refine h.imp fun {a c} hac => ?_
 unfold leG at hac ⊢; rw [setS_lt]; exact hac
theorem dots_setS (L : List Wn) (d : Int × Int) (s : Int) : (L.map (setS d s)).map dotW = L.map dotW := by
 rw [List.map_map]
 refine List.map_congr_left fun w _ => ?_
 show ((setS d s w).e.r, (setS d s w).e.n) = _
 rw [setS_e]
def delW (d : Int × Int) (L : List Wn) : List Wn := L.filter fun w => decide (dotW w ≠ d)
theorem delW_mem {d : Int × Int} {L : List Wn} {w : Wn} : w ∈ delW d L ↔ w ∈ L ∧ dotW w ≠ d := by simp [delW]
structure QI (n : Nat) (V : List Int) (L : List Wn) : Prop where
 n1 : 1 ≤ n
 n2 : n ≤ 16
 len : V.length = n
 num : numOk V
 nd : (L.map dotW).Nodup
 fit : ∀ w ∈ L, fitsB n w.e w.src = true
 new : ∀ w ∈ L, hasL V w.e.r w.e.n = false
 ew : ∀ w ∈ L, EW w.e
 rf : ∀ w ∈ L, w.e.refs.length ≤ 1000000
 many : L.length ≤ 100000
 nrm : ∀ w ∈ L, nW w = w
 so : L.Pairwise leG
theorem QI.i32 {n : Nat} {V : List Int} {L : List Wn} (hq : QI n V L) : ∀ w ∈ L, w.e.id.length = 32 := fun w hw => (hq.ew w hw).l32
structure HI (L R H : List Wn) : Prop where
 perm : R.Perm H
 hp : hpG R.length R
 pm : L.Perm (H.map nW)
section
variable {n : Nat} {V : List Int} {L R H : List Wn} (hq : QI n V L) (hi : HI L R H)
include hi in
theorem HI.mem {w : Wn} (h : w ∈ H) : nW w ∈ L := hi.pm.symm.subset (List.mem_map.2 ⟨w, h, rfl⟩)
include hi in
theorem HI.sub : ∀ e ∈ R, e ∈ H := fun _ h => hi.perm.subset h
include hq hi in
theorem HI.h32 : ∀ e ∈ H, e.e.id.length = 32 := fun e h => hq.i32 (nW e) (hi.mem h)
include hq hi in
theorem HI.nd : (H.map dotW).Nodup := by
 have h1 := hi.pm.map dotW
 rw [List.map_map] at h1
 exact h1.nodup_iff.1 hq.nd
include hi in
theorem HI.len : R.length = L.length ∧ H.length = L.length := by
 have h1 := hi.perm.length_eq
 have h2 := hi.pm.length_eq
 rw [List.length_map] at h2
 omega
theorem getM_wM {d : Int × Int} : (∀ w ∈ H, dotW w ≠ d) → getM d (wM H) = none := by
 induction H with
 | nil => intro _; rfl
 | cons e l ih =>
  intro h
  simp only [wM, getM]
  rw [if_neg (h e List.mem_cons_self)]
  exact ih fun w hw => h w (List.mem_cons_of_mem _ hw)
theorem getM_wM_some {d : Int × Int} : (∃ w ∈ H, dotW w = d) → ∃ w ∈ H, dotW w = d ∧ getM d (wM H) = some (.pointer (some ⟨w.g, 0, none⟩)) := by
 induction H with
 | nil => rintro ⟨w, hw, _⟩; simp at hw
 | cons e l ih =>
  rintro ⟨w, hw, hd⟩
  simp only [wM, getM]
  by_cases he : dotW e = d
  ·exact ⟨e, List.mem_cons_self, he, if_pos he⟩
  ·rw [if_neg he]
   have : ∃ w ∈ l, dotW w = d := by
    rcases List.mem_cons.1 hw with rfl | hw
    ·exact absurd hd he
    ·exact ⟨w, hw, hd⟩
   obtain ⟨w', h1, h2, h3⟩ := ih this
   exact ⟨w', List.mem_cons_of_mem _ h1, h2, h3⟩
include hi in
theorem HI.miss {d : Int × Int} (h : findW d L = none) : getM d (wM H) = none :=
 getM_wM fun w hw => findW_none h (nW w) (hi.mem hw)
include hq hi in
theorem HI.hit {d : Int × Int} {x : Wn} (h : findW d L = some x) : ∃ w ∈ H, dotW w = d ∧ nW w = x ∧ getM d (wM H) = some (.pointer (some ⟨w.g, 0, none⟩)) := by
 obtain ⟨h1, h2⟩ := findW_some h
 obtain ⟨w0, hw0, he0⟩ := List.mem_map.1 (hi.pm.subset h1)
 obtain ⟨w, hw, hd, hg⟩ := getM_wM_some (H := H) (d := d) ⟨w0, hw0, by rw [← h2, ← he0]; rfl⟩
 exact ⟨w, hw, hd, dot_uniq hq.nd (hi.mem hw) h1 (show dotW w = _ by rw [hd, h2]), hg⟩
include hq in
theorem QI.dotOk {w : Wn} (h : w ∈ L) : Go.Proofs.YtdmfcnjgdicncaaGreat.dotOk (dotW w) := by
 have := of_decide_eq_true (hq.fit w h)
 have h2 := hq.n2
 exact ⟨(i64wf _).2 (by show I64 w.e.r; unfold I64; omega), (i64wf _).2 (by show I64 w.e.n; unfold I64; omega)⟩
end

def que (gq n : Nat) (V : List Int) (L : List Wn) : SP :=
 exP (S := Nat × Value × Value × List Wn × List Wn) (fun s => QI n V L ∧ HI L s.2.2.2.1 s.2.2.2.2) fun s => stH gq s.1 s.2.1 V s.2.2.1 s.2.2.2.1 s.2.2.2.2 []
def addB (V : List Int) (L : List Wn) (e : Ev) (s : Int) : Bool := fitsB V.length e s && !hasL V e.r e.n && (findW (e.r, e.n) L).isNone && decide (L.length < 64)
def addE (V : List Int) (L : List Wn) (e : Ev) (s : Int) : Int := if fitsB V.length e s = false then 2 else if hasL V e.r e.n = true ∨ (findW (e.r, e.n) L).isSome then 0 else if 64 ≤ L.length then 10 else 0
def addL (V : List Int) (L : List Wn) (e : Ev) (s : Int) : List Wn :=
 if fitsB V.length e s = false ∨ hasL V e.r e.n = true then L else if (findW (e.r, e.n) L).isSome then L.map (setS (e.r, e.n) s) else if 64 ≤ L.length then L else insL (nW ⟨0, e, s⟩) L
section
variable {n : Nat} {V : List Int} {L R H : List Wn}
theorem hpG_map {f : Wn → Wn} (hf : ∀ a c, HOrd.lt (f a) (f c) = HOrd.lt a c) (h : hpG R.length R) : hpG (R.map f).length (R.map f) := by
 intro i h0 hi
 rw [List.length_map] at hi
 have := h i h0 hi
 have hx : ∀ k, k < R.length → (R.map f).getD k HOrd.d = f (R.getD k HOrd.d) := fun k hk => by
  rw [List.getD_eq_getElem?_getD, List.getD_eq_getElem?_getD, List.getElem?_map, List.getElem?_eq_getElem hk]; rfl
 unfold leG atG at this ⊢
 rw [hx _ hi, hx _ (by omega), hf]; exact this
theorem QI.setS (hq : QI n V L) {e : Ev} {s : Int} (hf : fitsB n e s = true) : QI n V (L.map (setS (e.r, e.n) s)) where
 n1 := hq.n1
 n2 := hq.n2
 len := hq.len
 num := hq.num
 nd := by rw [dots_setS]; exact hq.nd
 fit := fun w hw => by
  obtain ⟨x, hx, rfl⟩ := List.mem_map.1 hw
  have h1 := hq.fit x hx
  unfold YtdmfcnjgdicncaaGreat.setS
  split
  ·have h2 := of_decide_eq_true h1
   have h3 := of_decide_eq_true hf
   exact decide_eq_true ⟨h3.1, h3.2.1, h2.2.2⟩
  ·exact h1
 new := fun w hw => by
  obtain ⟨x, hx, rfl⟩ := List.mem_map.1 hw
  rw [setS_e]; exact hq.new x hx
 ew := fun w hw => by
  obtain ⟨x, hx, rfl⟩ := List.mem_map.1 hw
  rw [setS_e]; exact hq.ew x hx
 rf := fun w hw => by
  obtain ⟨x, hx, rfl⟩ := List.mem_map.1 hw
  rw [setS_e]; exact hq.rf x hx
 many := by rw [List.length_map]; exact hq.many
 nrm := fun w hw => by
  obtain ⟨x, hx, rfl⟩ := List.mem_map.1 hw
  rw [setS_nW, hq.nrm x hx]
 so := pairwise_setS hq.so
theorem HI.setS (hi : HI L R H) (d : Int × Int) (s : Int) : HI (L.map (setS d s)) (R.map (setS d s)) (H.map (setS d s)) where
 perm := hi.perm.map _
 hp := hpG_map (setS_lt d s) hi.hp
 pm := by
  rw [List.map_map]
  have h1 := hi.pm.map (YtdmfcnjgdicncaaGreat.setS d s)
  rw [List.map_map] at h1
  refine h1.trans (.of_eq (List.map_congr_left fun w _ => ?_))
  exact (setS_nW d s w).symm
theorem QI.ins (hq : QI n V L) {e : Ev} {s : Int} (hf : fitsB n e s = true) (hh : hasL V e.r e.n = false) (hn : findW (e.r, e.n) L = none) (hew : EW e) (hl : e.refs.length ≤ 1000000) (hm : L.length < 64) : QI n V (insL (nW ⟨0, e, s⟩) L) := by
 have hp := insL_perm (nW ⟨0, e, s⟩) L
 have hall : ∀ {p : Wn → Prop}, (∀ w ∈ L, p w) → p (nW ⟨0, e, s⟩) → ∀ w ∈ insL (nW ⟨0, e, s⟩) L, p w := fun h1 h2 w hw => by
  rcases List.mem_cons.1 (hp.subset hw) with rfl | h
  ·exact h2
  ·exact h1 w h
 exact {
  n1 := hq.n1
  n2 := hq.n2
  len := hq.len
  num := hq.num
  nd := (hp.map dotW).nodup_iff.2 (by
   rw [List.map_cons, List.nodup_cons]
   refine ⟨fun hc => ?_, hq.nd⟩
   obtain ⟨x, hx, he⟩ := List.mem_map.1 hc
   exact findW_none hn x hx he)
  fit := hall hq.fit hf
  new := hall hq.new hh
  ew := hall hq.ew (hew.own nS nS)
  rf := hall hq.rf hl
  many := by rw [hp.length_eq, List.length_cons]; omega
  nrm := hall hq.nrm rfl
  so := insL_sorted hq.so }
theorem wM_setS (d : Int × Int) (s : Int) : wM (H.map (setS d s)) = wM H := by
 induction H with
 | nil => rfl
 | cons e l ih => simp only [List.map_cons, wM, ih, setS_e, setS_g]
theorem ptrs_setS (d : Int × Int) (s : Int) : ptrs (R.map (setS d s)) = ptrs R := by
 rw [ptrs, List.map_map]
 refine List.map_congr_left fun w _ => ?_
 simp [setS_g]
theorem map_setS_off {d : Int × Int} {s : Int} (h : ∀ w ∈ H, dotW w ≠ d) : H.map (setS d s) = H := by
 have : H.map (setS d s) = H.map id := List.map_congr_left fun w hw => if_neg (h w hw)
 rw [this, List.map_id]
end
section
variable {b : World} {F : List SP} {gq n : Nat} {V : List Int} {L : List Wn} {e : Ev} {s : Int}
set_option maxRecDepth 20000 in
set_option maxHeartbeats 4000000 in
theorem Add_S (he : ∀ w, Sat b F w → VL (Value.int .i64) w e.dv e.deps) (hr : ∀ w, Sat b F w → SL w 32 e.rv e.refs.length (idsC e.refs)) (hd : e.deps.length ≤ 1000000) (hl : e.refs.length ≤ 1000000) (hew : EW e) :
  SC Tryz.prog n_p_hold_Queue_Add [.pointer (some ⟨gq, 0, none⟩), evV e, .int .i64 s] b (que gq n V L :: F) (fun v F' => v = .tuple ⟨[.bool (addB V L e s), .int .i64 (addE V L e s)]⟩ ∧ F' = que gq n V (addL V L e s) :: F) := by
 refine SC.opn ?_
 rintro ⟨gm, v, h, R, H⟩ ⟨hq, hi⟩
 dsimp only at hi
 show SC _ _ _ _ (stH gq gm v V h R H F) _
 refine SC.out (R := fun u F' => u = .tuple ⟨[.bool (addB V L e s), .int .i64 (addE V L e s)]⟩ ∧ ∃ h' R' H', F' = stH gq gm v V h' R' H' F ∧ QI n V (addL V L e s) ∧ HI (addL V L e s) R' H') ?_ (by
  rintro u _ ⟨h1, h', R', H', rfl, hq', hi'⟩
  exact ⟨_, ent_pack (G := fun s => stH gq s.1 s.2.1 V s.2.2.1 s.2.2.2.1 s.2.2.2.2 []) (gm, v, h', R', H') ⟨hq', hi'⟩, h1, rfl⟩)
 have hlen := hi.len
 have hmany := hq.many
 have hVl := hq.len
 have h32 := hew.l32
 refine enterS F_p_hold_Queue_Add rfl rfl rfl ?_
 (refine sw_seq (sw_region ?_))
 refine so_box rfl rfl rfl rfl rfl fun g4 => ?_
 ((iterate 2 refine so_1 rfl ?_); refine so_nil (sn_then ?_); refine sw_seq ?_; refine sw_block ?_; refine sw_seq (sw_region ?_); refine so_1 rfl ?_)
 refine so_callE rfl rfl rfl ((none_H (F := pt g4 t_api_Event (evC e) :: F)).at (ent_keep 6 [1, 2, 3, 4, 5, 0] rfl rfl) (ent_keep 6 [5, 0, 1, 2, 3, 4] rfl rfl)) ?_
 (refine so_1 rfl ?_; refine so_nil (sn_then ?_); refine sw_cond_f rfl ?_; refine sw_seq (sw_region ?_); refine so_1 rfl ?_)
 refine so_ldA 0 rfl rfl rfl rfl rfl rfl (segO_all (by rw [evC_len h32]; rfl)) rfl ?_
 (refine so_1 rfl ?_)
 refine so_callE rfl rfl rfl ((fits_S (F := pt g4 t_api_Event (evC e) :: F) (up he (ent_keep 6 [] rfl rfl)) hd).at (ent_keep 6 [1, 2, 3, 4, 5, 0] rfl rfl) (ent_keep 6 [5, 0, 1, 2, 3, 4] rfl rfl)) ?_
 by_cases hf : fitsB V.length e s = true
 rotate_left
 ·have hf' : fitsB V.length e s = false := by simpa using hf
  refine so_know 17 (.bool false) rfl (congrArg Value.bool hf') ?_
  ((iterate 2 refine so_1 rfl ?_); refine so_nil (sn_then ?_); refine sw_cond_t rfl ?_; refine sw_seq (sw_region ?_); (iterate 2 refine so_1 rfl ?_); refine so_nil (sn_then ?_); refine sw_ret ?_; refine sn_block_ret ?_; refine sn_then_ret ?_)
  refine sn_ret rfl (.tmp rfl (.tmp rfl .nil)) (ent_keep 6 [1, 2, 3, 4, 5] rfl rfl) ?_
  refine ⟨?_, h, R, H, rfl, ?_⟩
  ·rw [addB, addE, hf']; rfl
  ·rw [addL, if_pos (.inl hf')]; exact ⟨hq, hi⟩
 refine so_know 17 (.bool true) rfl (congrArg Value.bool hf) ?_
 ((iterate 2 refine so_1 rfl ?_); refine so_nil (sn_then ?_); refine sw_cond_f rfl ?_; refine sw_seq ?_)
 refine sw_draw flo _ (by decide +kernel) (Ent.refl _) ?_
 ((iterate 3 refine sd_1 rfl (.inl rfl) ?_); refine sd_l 1 rfl rfl rfl rfl ?_; refine sd_1 rfl (.inl rfl) ?_; refine sd_l 0 rfl rfl rfl rfl ?_)
 refine sd_callE rfl rfl rfl rfl (SC.ofExt fun w H => Has_spec_vector_Has (vlZ (k := 2) rfl w H)) (Ent.refl _) ?_
 (refine sd_1 rfl (.inl rfl) ?_)
 refine sd_nil ?_
 cases hh : hasL V e.r e.n with
 | true =>
  (refine sn_then ?_; refine sw_cond_t rfl ?_; refine sw_seq (sw_region ?_); (iterate 2 refine so_1 rfl ?_); refine so_nil (sn_then ?_); refine sw_ret ?_; refine sn_block_ret ?_; refine sn_then_ret ?_)
  refine sn_ret rfl (.tmp rfl (.tmp rfl .nil)) (ent_keep 6 [1, 2, 3, 4, 5] rfl rfl) ?_
  refine ⟨?_, h, R, H, rfl, ?_⟩
  ·rw [addB, addE, hf, hh]; rfl
  ·rw [addL, if_pos (.inr hh)]; exact ⟨hq, hi⟩
 | false =>
 have hfn : fitsB n e s = true := hVl ▸ hf
 have hdok : dotOk (e.r, e.n) := by
  have h1 := of_decide_eq_true hf
  have h2 := hq.n2
  exact ⟨(i64wf _).2 (by show I64 e.r; unfold I64; omega), (i64wf _).2 (by show I64 e.n; unfold I64; omega)⟩
 (refine sn_then ?_; refine sw_cond_f rfl ?_; refine sw_skip ?_; refine sn_block ?_; refine sn_then ?_; (iterate 2 refine sw_seq ?_))
 refine sw_draw flo _ (by decide +kernel) (Ent.refl _) ?_
 ((iterate 3 refine sd_1 rfl (.inl rfl) ?_); refine sd_l 1 rfl rfl rfl rfl ?_; refine sd_1 rfl (.inl rfl) ?_; refine sd_l 0 rfl rfl rfl rfl ?_)
 cases hfw : findW (e.r, e.n) L with
 | some x =>
  obtain ⟨w, hw, hwd, hwx, hwg⟩ := hi.hit hq hfw
  refine sd_look1 4 dotMK hdok hwg rfl rfl rfl rfl rfl rfl rfl rfl rfl ?_
  ((iterate 5 refine sd_1 rfl (.inl rfl) ?_))
  refine sd_nil ?_
  (refine sn_then ?_; refine sw_seq (sw_region ?_); refine so_1 rfl ?_; refine so_nil (sn_then ?_); refine sw_cond_t rfl ?_; refine sw_seq (sw_region ?_); (iterate 4 refine so_1 rfl ?_))
  obtain ⟨l1, l2, hH⟩ := List.append_of_mem hw
  have hnd := hi.nd hq
  have hw32 := hi.h32 hq w hw
  refine so_ent (ent_keep 6 [5, 0, 1, 2, 3, 4] rfl rfl) ?_
  refine so_ent (ent_out (A := wF H) (B := wP w) (C := wF (l1 ++ l2)) (by rw [hH]; exact wF_at)) ?_
  refine so_st 0 rfl rfl rfl rfl rfl rfl rfl rfl (wsC_stsrc hw32) rfl ?_
  have hH' : H.map (setS (e.r, e.n) s) = l1 ++ (⟨w.g, w.e, s⟩ : Wn) :: l2 := by
   rw [hH]
   rw [hH] at hnd
   have hp : (l1 ++ w :: l2).Perm (w :: (l1 ++ l2)) := List.perm_middle
   have hnd' := (hp.map dotW).nodup_iff.1 hnd
   simp only [List.map_cons, List.nodup_cons] at hnd'
   have h1 : ∀ y ∈ l1 ++ l2, dotW y ≠ (e.r, e.n) := fun y hy hc => hnd'.1 (List.mem_map.2 ⟨y, hy, hc.trans hwd.symm⟩)
   rw [List.map_append, List.map_cons, map_setS_off fun y hy => h1 y (List.mem_append_left _ hy), map_setS_off fun y hy => h1 y (List.mem_append_right _ hy)]
   congr 2
   exact if_pos hwd
  refine so_ent (ent_in (A := wF (H.map (setS (e.r, e.n) s))) (B := wP ⟨w.g, w.e, s⟩) (C := wF (l1 ++ l2)) (by rw [hH']; exact wF_at)) ?_
  (refine so_nil (sn_then ?_); refine sw_seq (sw_region ?_); (iterate 2 refine so_1 rfl ?_); refine so_nil (sn_then ?_); refine sw_ret ?_; refine sn_then_ret ?_)
  refine sn_ret rfl (.tmp rfl (.tmp rfl .nil)) (ent_keep 6 [2, 3, 4, 5, 0] rfl rfl) ?_
  refine ⟨?_, h, R.map (setS (e.r, e.n) s), H.map (setS (e.r, e.n) s), ?_, ?_, ?_⟩
  ·rw [addB, addE, hf, hh, hfw]; rfl
  ·simp only [stH, rP, mpH, wM_setS, ptrs_setS, List.length_map]
  ·rw [addL, hfw, if_neg (by simp [hf, hh])]; exact hq.setS hfn
  ·rw [addL, hfw, if_neg (by simp [hf, hh])]; exact hi.setS _ _
 | none =>
  refine sd_look0 4 dotMK hdok (hi.miss hfw) rfl rfl rfl rfl rfl rfl rfl rfl rfl ?_
  ((iterate 5 refine sd_1 rfl (.inl rfl) ?_))
  refine sd_nil (sn_then (sw_seq ?_))
  refine sw_fact (fun w H => (H.oat (k := 3) rfl).form) ?_
  rintro ⟨A1, c1, rfl, _, _, _⟩
  (refine sw_region ?_; refine so_1 rfl ?_; refine so_nil (sn_then ?_); refine sw_cond_f rfl ?_; refine sw_skip ?_; refine sn_then ?_; (iterate 2 refine sw_seq ?_); refine sw_region ?_; (iterate 3 refine so_1 rfl ?_); refine so_l 1 rfl rfl rfl ?_; (iterate 2 refine so_1 rfl ?_); refine so_nil (sn_then ?_))
  by_cases hm : 64 ≤ L.length
  ·refine sw_know 47 (.bool true) rfl (congrArg Value.bool (decide_eq_true (by omega))) ?_
   (refine sw_cond_t rfl ?_; refine sw_seq (sw_region ?_); (iterate 2 refine so_1 rfl ?_); refine so_nil (sn_then ?_); refine sw_ret ?_; refine sn_then_ret ?_)
   refine sn_ret rfl (.tmp rfl (.tmp rfl .nil)) (ent_keep 6 [1, 2, 3, 4, 5] rfl rfl) ?_
   refine ⟨?_, .slice A1 R.length c1, R, H, rfl, ?_⟩
   ·have hm' : ¬ L.length < 64 := by omega
    rw [addB, addE, hf, hh, hfw]; simp [hm, hm', tupl]
   ·rw [addL, hfw, if_neg (by simp [hf, hh]), if_neg (by simp), if_pos hm]; exact ⟨hq, hi⟩
  ·refine sw_know 47 (.bool false) rfl (congrArg Value.bool (decide_eq_false (by omega))) ?_
   (refine sw_cond_f rfl ?_; refine sw_skip ?_; refine sn_then ?_; refine sw_seq (sw_region ?_); refine so_1 rfl ?_)
   refine so_ldA 0 rfl rfl rfl rfl rfl rfl (segO_all (by rw [evC_len h32]; rfl)) rfl ?_
   (refine so_1 rfl ?_)
   refine so_B rfl rfl rfl ⟨evC_len h32, rfl, trivial⟩ ?_
   have hx := hold_S (b := b) (F := pt g4 t_api_Event (evC e) :: F) (gq := gq) (gm := gm) (v := v) (V := V) (h := .slice A1 R.length c1) (R := R) (H := H) (e := e) (s := s) (hi.h32 hq) hi.sub (by omega) h32 hdok (hi.miss hfw) (up he (ent_keep 1 [] rfl rfl)) (up hr (ent_keep 1 [] rfl rfl)) hd hl
   refine so_call rfl rfl rfl (hx.ent (ent_keep 6 [1, 2, 3, 4, 5, 0] rfl rfl)) ?_
   rintro _ _ ⟨g, dv, rv, h', rfl⟩
   (refine so_nil (sn_then ?_); refine sw_seq (sw_region ?_); (iterate 2 refine so_1 rfl ?_); refine so_nil (sn_then ?_); refine sw_ret ?_)
   refine sn_ret rfl (.tmp rfl (.tmp rfl .nil)) (ent_keep 6 [0, 1, 2, 3, 4] rfl rfl) ?_
   have hc : addL V L e s = insL (nW ⟨0, e, s⟩) L := by rw [addL, hfw, if_neg (by simp [hf, hh]), if_neg (by simp), if_neg hm]
   refine ⟨?_, h', _, _, rfl, ?_, ?_⟩
   ·have hm' : L.length < 64 := by omega
    rw [addB, addE, hf, hh, hfw]; simp [hm, hm', tupl]
   ·rw [hc]; exact hq.ins hfn hh hfw hew hl (by omega)
   ·rw [hc]
    have hup : (upG (R.length + 1) (R ++ [(⟨g, e.own dv rv, s⟩ : Wn)]) R.length).Perm (R ++ [⟨g, e.own dv rv, s⟩]) := upG_perm _ _ _ (by simp)
    refine ⟨hup.trans (hi.perm.append_right _), ?_, ?_⟩
    ·rw [upG_len, List.length_append, List.length_singleton]; exact push_hpG hi.hp
    ·rw [List.map_append]
     refine (insL_perm _ _).trans ?_
     exact (List.Perm.cons _ hi.pm).trans (List.perm_append_comm (l₁ := [nW ⟨g, e.own dv rv, s⟩]))
end

theorem HI.ord {n : Nat} {V : List Int} {L R H O : List Wn} (hq : QI n V L) (hi : HI L R H) (h1 : O.Perm R) (h2 : O.Pairwise leG) : O.map nW = L := by
 refine sorted_uniq ?_ hq.so (((h1.trans hi.perm).map nW).trans hi.pm.symm) hq.nd
 rw [List.pairwise_map]; exact h2
theorem ripes_nW (V : List Int) (O : List Wn) : ripes V (O.map nW) = ripes V O := by
 unfold ripes
 rw [List.filter_map, List.map_map]
 rfl
section
variable {b : World} {F : List SP} {gq n : Nat} {V : List Int} {L R H : List Wn} {w : Wn}
theorem wF_all {k : Nat} (hk : nth F k = some (all (wF H))) (he : w ∈ H) : ∀ W, Sat b F W → ∀ j, j < (waC w).length → W.cell? ⟨w.g, 0 + j, none⟩ = (waC w)[j]? := fun W hS j hj => by
 rw [Nat.zero_add]; exact (wF_blk hk he W hS).cell j
theorem Vector_Q : SC Tryz.prog n_p_hold_Queue_Vector [.pointer (some ⟨gq, 0, none⟩)] b (que gq n V L :: F) (fun u F' => F' = rZ u V :: que gq n V L :: F) := by
 refine SC.opn ?_
 rintro ⟨gm, v, h, R, H⟩ ⟨hq, hi⟩
 dsimp only at hi
 show SC _ _ _ _ (stH gq gm v V h R H F) _
 refine (Vector_S (by have := hq.len; have := hq.n2; omega)).out ?_
 rintro u _ rfl
 exact ⟨_, ent_cons (ent_pack (G := fun s => stH gq s.1 s.2.1 V s.2.2.1 s.2.2.2.1 s.2.2.2.2 []) (gm, v, h, R, H) ⟨hq, hi⟩), rfl⟩
theorem Ripe_Q : SC Tryz.prog n_p_hold_Queue_Ripe [.pointer (some ⟨gq, 0, none⟩)] b (que gq n V L :: F) (fun u F' => ∃ A c, u = .slice A (ripes V L).length c ∧ F' = rO A c (ripes V L).length (ripes V L) :: que gq n V L :: F) := by
 refine SC.opn ?_
 rintro ⟨gm, v, h, R, H⟩ ⟨hq, hi⟩
 dsimp only at hi
 show SC _ _ _ _ (stH gq gm v V h R H F) _
 have hl := HI.len hi
 have hm := hq.many
 refine (Ripe_S (HI.h32 hq hi) (HI.sub hi) hi.hp (by omega)).out ?_
 rintro u _ ⟨O, A, c, h1, h2, h3, rfl⟩
 have e : ripes V O = ripes V L := by rw [← ripes_nW, HI.ord hq hi h1 h2]
 rw [e] at h3 ⊢
 exact ⟨_, ent_cons (ent_pack (G := fun s => stH gq s.1 s.2.1 V s.2.2.1 s.2.2.2.1 s.2.2.2.2 []) (gm, v, h, R, H) ⟨hq, hi⟩), A, c, h3, rfl⟩
set_option maxRecDepth 20000 in
set_option maxHeartbeats 4000000 in
theorem Held_S {gm : Nat} {v h : Value} (hq : QI n V L) (hi : HI L R H) : SC Tryz.prog n_p_hold_Queue_Held [.pointer (some ⟨gq, 0, none⟩)] b (stH gq gm v V h R H F) (fun u F' => ∃ D, D.map nW = L ∧ F' = rWs u D :: all (wsF D) :: stH gq gm v V h R H F) := by
 have hl := HI.len hi
 have hm := hq.many
 refine enterS F_p_hold_Queue_Held rfl rfl rfl ?_
 (refine sw_seq (sw_region ?_); refine so_1 rfl ?_; refine so_nil (sn_then ?_); (iterate 2 refine sw_seq ?_); refine sw_region ?_; refine so_1 rfl ?_)
 refine so_callE rfl rfl rfl (none_H) ?_
 (refine so_nil (sn_then ?_); refine sw_cond_f rfl ?_; refine sw_skip ?_; refine sn_then ?_; (iterate 2 refine sw_seq ?_); refine sw_region ?_; (iterate 3 refine so_1 rfl ?_); refine so_l 0 rfl rfl rfl ?_)
 refine so_call rfl rfl rfl ((drained_S (F := pt gq t_hold_Queue [v, h, .map (some gm)] :: rZ v V :: rP h R :: mpH gm H :: F) (up (fun w H => (H.oat (k := 2) rfl).sl) (ent_keep 5 [1, 2, 3, 4, 0] rfl rfl)) (HI.h32 hq hi) (HI.sub hi) hi.hp (by omega)).ent (ent_keep 5 [4, 0, 1, 2, 3] rfl rfl)) ?_
 rintro v11 _ ⟨O, hO1, hO2, rfl⟩
 have hord := HI.ord hq hi hO1 hO2
 refine so_fact (fun w H => (H.oat (k := 0) rfl).form) ?_
 rintro ⟨A1, c1, rfl, _, _, k3⟩
 have hOl := hO1.length_eq
 ((iterate 2 refine so_1 rfl ?_); refine so_nil (sn_then ?_); refine sw_block ?_)
 refine sw_loop (S := Nat × List Wn × Nat × Option Addr × Nat) (fun s => [(0, .pointer (some ⟨gq, 0, none⟩)), (2, .slice s.2.2.2.1 s.2.2.1 s.2.2.2.2), (11, .slice A1 O.length c1), (12, .int .i64 O.length), (13, .int .i64 (s.1 : Int))])
  (fun s => rWn s.2.2.2.1 s.2.2.2.2 s.2.2.1 s.2.1 :: all (wsF s.2.1) :: rW A1 c1 O.length O :: stH gq gm v V h R H F) (fun s => s.1 ≤ O.length ∧ s.2.1.map nW = (O.take s.1).map nW ∧ s.2.1.length = s.2.2.1) (fun s => O.length - s.1) (0, [], 0, none, 0) ⟨rfl, rfl, rfl, rfl, rfl, trivial⟩ ?_ ⟨Nat.zero_le _, rfl, rfl⟩ ?_
 ·exact ((ent_close (G := [])).trans (ent_row_nil t_api_Waiting 40 rfl)).trans (ent_keep 8 [0, 1, 2, 4, 5, 6, 7, 3] rfl rfl)
 rintro ⟨i, D, o, A, c⟩ ⟨hi1, hD, ho⟩
 dsimp only at hi1 hD ho ⊢
 have hDl : D.length = i := by have := congrArg List.length hD; rw [List.length_map, List.length_map, List.length_take] at this; omega
 (refine sw_seq (sw_region ?_); refine so_1 rfl ?_; refine so_nil (sn_then ?_); refine sw_seq ?_)
 refine sw_if rfl (fun h1 => ?_) (fun h1 => ?_)
 ·have h1' : i < O.length := by omega
  obtain ⟨gg, oo, rfl⟩ := k3 (by omega)
  have hmem : O[i] ∈ H := HI.sub hi _ (hO1.subset (List.getElem_mem h1'))
  have ci : (ptrs O)[i]? = some (.pointer (some ⟨O[i].g, 0, none⟩)) := by simp [ptrs, h1']
  have hsn : (O.take (i + 1)).map nW = D.map nW ++ [nW O[i]] := by rw [List.take_succ_eq_append_getElem h1', List.map_append, ← hD]; rfl
  generalize O[i] = x at *
  have hx32 := HI.h32 hq hi x hmem
  have hxd : x.e.deps.length ≤ 1000000 := by
   have := of_decide_eq_true (hq.fit _ (hi.mem hmem))
   have h7 : x.e.deps.length = n := this.2.2.2.2.2.2.1
   have := hq.n2; omega
  have hxl : x.e.refs.length ≤ 1000000 := hq.rf (nW x) (hi.mem hmem)
  (refine sw_skip ?_; refine sn_then ?_; refine sw_seq ?_; refine sw_block ?_; refine sw_seq (sw_region ?_); refine so_2 rfl (by omega) ?_)
  refine so_rd rfl (fun w H => ex_load rfl rfl rfl (by rw [mulz_eq, Int.toNat_natCast, Nat.mul_one]; exact row_cell (k := 2) rfl ci w H)) rfl ?_
  (refine so_1 rfl ?_; refine so_nil (sn_then ?_); refine sw_region ?_; (iterate 3 refine so_1 rfl ?_))
  refine so_rd rfl (fun w H => ex_loadN (cs := waC x) rfl rfl rfl (wsC_len hx32) (wF_all (k := 7) rfl hmem w H)) rfl ?_
  refine so_call rfl rfl rfl (own_S hx32 (wF_dv (k := 7) rfl hmem) (wF_rv (k := 7) rfl hmem) hxd hxl) ?_
  rintro _ _ ⟨dv, rv, rfl, rfl⟩
  refine so_fact (fun w H => (H.oat (k := 0) rfl).form) ?_
  rintro ⟨A2, c2, rfl, _, _, _⟩
  refine so_fact (fun w H => (H.oat (k := 1) rfl).form) ?_
  rintro ⟨A3, c3, rfl, _, _, _⟩
  generalize hye : x.e.own (.slice A2 x.e.deps.length c2) (.slice A3 x.e.refs.length c3) = ye
  have hy32 : ye.id.length = 32 := by rw [← hye]; exact hx32
  have hyone : ∀ u ∈ wsC ye x.src, u.oneCell' = true := wsC_one (by rw [← hye]; rfl) (by rw [← hye]; rfl)
  refine so_lit1 rfl rfl rfl rfl rfl rfl rfl (wsC_len hy32) (by decide) fun gl => ?_
  refine so_append 3 rfl rfl rfl rfl rfl rfl rfl rfl rfl (m := 1) (news := wsC ye x.src) (fun w H => (H.blk (k := 0) rfl).sl (by rw [wsC_len hy32]) (by decide)) hyone (by omega) (fun _ => rfl) fun v8 => ?_
  refine so_fact (fun w H => (H.oat (k := 3) rfl).form) ?_
  rintro ⟨A7, c7, rfl, _, _, _⟩
  (refine so_1 rfl ?_; refine so_nil ?_; refine sn_block ?_; refine sn_then ?_; refine sw_region ?_; refine so_2 rfl (by (unfold I64; omega)) ?_; refine so_1 rfl ?_; refine so_nil ?_)
  have hnx : nW ⟨0, ye, x.src⟩ = nW x := by rw [← hye]; rfl
  refine sn_ent (G := wsP ⟨0, ye, x.src⟩ ++ (all (wsF D) :: rWn A7 c7 (o + 1) (D ++ [⟨0, ye, x.src⟩]) :: rW (some ⟨gg, oo, none⟩) c1 O.length O :: stH gq gm v V h R H F)) ?_ ?_
  ·have e1 : rWn A7 c7 (o + 1) (D ++ [⟨0, ye, x.src⟩]) = row t_api_Waiting 40 (.slice A7 (o + 1) c7) (o + 1) (wssC D ++ wsC ye x.src) := by
    simp only [rWn, flC_app, flC, List.append_nil]
   rw [e1]
   subst hye
   exact ent_keep 10 [1, 2, 4, 3, 5, 6, 7, 8, 9] rfl rfl
  refine sn_ent (ent_in (A := wsF (D ++ [⟨0, ye, x.src⟩])) wsF_snoc) ?_
  refine sn_round (i + 1, D ++ [⟨0, ye, x.src⟩], o + 1, A7, c7) ⟨rfl, rfl, rfl, rfl, rfl, trivial⟩ (ent_keep 3 [1, 0, 2] rfl rfl) ⟨h1', by dsimp only; rw [hsn, List.map_append]; simp [hnx], by simp [ho]⟩ (by dsimp only; omega)
 ·(refine sw_exit ?_; refine sn_then_exit ?_; refine sn_loop_exit ?_; refine sn_block_exit ?_; refine sn_then ?_; refine sw_seq (sw_region ?_); (iterate 2 refine so_1 rfl ?_); refine so_nil (sn_then ?_); refine sw_ret ?_)
  obtain rfl : i = O.length := by omega
  rw [List.take_length, hord] at hD
  subst ho
  refine sn_ret rfl (.tmp rfl .nil) (ent_keep 8 [0, 1, 3, 4, 5, 6, 7] rfl rfl) ?_
  exact ⟨D, hD, rfl⟩
theorem Held_Q : SC Tryz.prog n_p_hold_Queue_Held [.pointer (some ⟨gq, 0, none⟩)] b (que gq n V L :: F) (fun u F' => ∃ D, D.map nW = L ∧ F' = rWs u D :: all (wsF D) :: que gq n V L :: F) := by
 refine SC.opn ?_
 rintro ⟨gm, v, h, R, H⟩ ⟨hq, hi⟩
 dsimp only at hi
 refine (Held_S hq hi).out ?_
 rintro u _ ⟨D, hD, rfl⟩
 exact ⟨_, ent_cons (ent_cons (ent_pack (G := fun s => stH gq s.1 s.2.1 V s.2.2.1 s.2.2.2.1 s.2.2.2.2 []) (gm, v, h, R, H) ⟨hq, hi⟩)), D, hD, rfl⟩
set_option maxRecDepth 20000 in
set_option maxHeartbeats 4000000 in
theorem Holds_S {gm : Nat} {v h : Value} {d : Int × Int} (hd : dotOk d) (hq : QI n V L) (hi : HI L R H) : SC Tryz.prog n_p_hold_Queue_Holds [.pointer (some ⟨gq, 0, none⟩), dotP d] b (stH gq gm v V h R H F) (fun u F' =>
  (findW d L = none ∧ u = .tuple ⟨[.agg ⟨wsC ev0 0⟩, .bool false]⟩ ∧ F' = stH gq gm v V h R H F) ∨ ∃ x dv rv, findW d L = some x ∧ u = .tuple ⟨[.agg ⟨wsC (x.e.own dv rv) x.src⟩, .bool true]⟩ ∧ F' = rZ dv x.e.deps :: rD rv x.e.refs :: stH gq gm v V h R H F) := by
 refine enterS F_p_hold_Queue_Holds rfl rfl rfl ?_
 (refine sw_seq (sw_region ?_))
 refine so_box rfl rfl rfl rfl rfl fun g3 => ?_
 skip
 refine so_new rfl rfl rfl rfl rfl fun g4 => ?_
 refine so_ent (ent_keep 7 [2, 3, 4, 5, 6, 0, 1] rfl rfl) ?_
 (refine so_1 rfl ?_; refine so_nil (sn_then ?_); (iterate 2 refine sw_seq ?_); refine sw_region ?_; refine so_1 rfl ?_)
 refine so_callE rfl rfl rfl (none_H) ?_
 (refine so_nil (sn_then ?_); refine sw_cond_f rfl ?_; refine sw_skip ?_; refine sn_then ?_; refine sw_seq ?_)
 refine sw_draw flo _ (by decide +kernel) (Ent.refl _) ?_
 ((iterate 3 refine sd_1 rfl (.inl rfl) ?_); refine sd_l 0 rfl rfl rfl rfl ?_; refine sd_l 6 rfl rfl rfl rfl ?_)
 cases hfw : findW d L with
 | none =>
  refine sd_look0 3 dotMK hd (hi.miss hfw) rfl rfl rfl rfl rfl rfl rfl rfl rfl ?_
  ((iterate 5 refine sd_1 rfl (.inl rfl) ?_))
  refine sd_nil ?_
  (refine sn_then ?_; (iterate 2 refine sw_seq ?_); refine sw_region ?_; (iterate 2 refine so_1 rfl ?_); refine so_nil (sn_then ?_); refine sw_cond_t rfl ?_; refine sw_seq (sw_region ?_); refine so_1 rfl ?_; refine so_s1 5 rfl rfl rfl rfl ?_; refine so_1 rfl ?_; refine so_nil (sn_then ?_); refine sw_ret ?_; refine sn_then_ret ?_)
  refine sn_ret rfl (.agg 5 rfl rfl rfl rfl rfl (.tmp rfl .nil)) (ent_keep 7 [0, 1, 2, 3, 4] rfl rfl) ?_
  exact .inl ⟨rfl, rfl, rfl⟩
 | some x =>
  obtain ⟨w, hw, hwd, hwx, hwg⟩ := hi.hit hq hfw
  have hx32 := HI.h32 hq hi w hw
  have hxd : w.e.deps.length ≤ 1000000 := by
   have := of_decide_eq_true (hq.fit _ (hi.mem hw))
   have h7 : w.e.deps.length = n := this.2.2.2.2.2.2.1
   have := hq.n2; omega
  have hxl : w.e.refs.length ≤ 1000000 := hq.rf (nW w) (hi.mem hw)
  refine sd_look1 3 dotMK hd hwg rfl rfl rfl rfl rfl rfl rfl rfl rfl ?_
  ((iterate 5 refine sd_1 rfl (.inl rfl) ?_))
  refine sd_nil ?_
  (refine sn_then ?_; (iterate 2 refine sw_seq ?_); refine sw_region ?_; (iterate 2 refine so_1 rfl ?_); refine so_nil (sn_then ?_); refine sw_cond_f rfl ?_; refine sw_skip ?_; refine sn_then ?_; refine sw_seq (sw_region ?_); (iterate 2 refine so_1 rfl ?_))
  refine so_rd rfl (fun w' H => ex_loadN (cs := waC w) rfl rfl rfl (wsC_len hx32) (wF_all (k := 4) rfl hw w' H)) rfl ?_
  refine so_call rfl rfl rfl (own_S hx32 (wF_dv (k := 4) rfl hw) (wF_rv (k := 4) rfl hw) hxd hxl) ?_
  rintro _ _ ⟨dv, rv, rfl, rfl⟩
  refine so_fact (fun w H => (H.oat (k := 0) rfl).form) ?_
  rintro ⟨A2, c2, rfl, _, _, _⟩
  refine so_fact (fun w H => (H.oat (k := 1) rfl).form) ?_
  rintro ⟨A3, c3, rfl, _, _, _⟩
  have hy32 : (w.e.own (.slice A2 w.e.deps.length c2) (.slice A3 w.e.refs.length c3)).id.length = 32 := hx32
  have hyone : ∀ u ∈ wsC (w.e.own (.slice A2 w.e.deps.length c2) (.slice A3 w.e.refs.length c3)) w.src, u.oneCell' = true := wsC_one rfl rfl
  refine so_stW 7 rfl rfl rfl rfl rfl rfl rfl (wsC_len hy32) hyone (by rw [wsC_len hy32]; rfl) ?_
  (refine so_1 rfl ?_; refine so_nil (sn_then ?_); refine sw_ret ?_)
  refine sn_ret rfl (.whole 7 rfl rfl rfl rfl (by rw [wsC_len hy32]; rfl) (.tmp rfl .nil)) (ent_keep 9 [0, 1, 2, 3, 4, 5, 6] rfl rfl) ?_
  subst hwx
  exact .inr ⟨_, _, _, rfl, rfl, rfl⟩
theorem Holds_Q {d : Int × Int} (hd : dotOk d) : SC Tryz.prog n_p_hold_Queue_Holds [.pointer (some ⟨gq, 0, none⟩), dotP d] b (que gq n V L :: F) (fun u F' =>
  (findW d L = none ∧ u = .tuple ⟨[.agg ⟨wsC ev0 0⟩, .bool false]⟩ ∧ F' = que gq n V L :: F) ∨ ∃ x dv rv, findW d L = some x ∧ u = .tuple ⟨[.agg ⟨wsC (x.e.own dv rv) x.src⟩, .bool true]⟩ ∧ F' = rZ dv x.e.deps :: rD rv x.e.refs :: que gq n V L :: F) := by
 refine SC.opn ?_
 rintro ⟨gm, v, h, R, H⟩ ⟨hq, hi⟩
 dsimp only at hi
 refine (Holds_S hd hq hi).out ?_
 have hp := ent_pack (G := fun s : Nat × Value × Value × List Wn × List Wn => stH gq s.1 s.2.1 V s.2.2.1 s.2.2.2.1 s.2.2.2.2 []) (p := fun s => QI n V L ∧ HI L s.2.2.2.1 s.2.2.2.2) (F := F) (gm, v, h, R, H) ⟨hq, hi⟩
 rintro u _ (⟨h1, h2, rfl⟩ | ⟨x, dv, rv, h1, h2, rfl⟩)
 ·exact ⟨_, hp, .inl ⟨h1, h2, rfl⟩⟩
 ·exact ⟨_, ent_cons (ent_cons hp), .inr ⟨x, dv, rv, h1, h2, rfl⟩⟩
end

def advV (V : List Int) (r m : Int) : List Int := V.set (r - 1).toNat m
theorem nn_adv {V : List Int} {r m : Int} (h1 : 1 ≤ r) (h2 : r ≤ V.length) (i : Nat) : nn (advV V r m) i = if i = (r - 1).toNat then max m 0 else nn V i := by
 unfold nn advV
 rw [List.getD_eq_getElem?_getD, List.getElem?_set]
 by_cases h : (r - 1).toNat = i
 ·rw [if_pos h, if_pos h.symm, if_pos (by omega)]; rfl
 ·rw [if_neg h, if_neg (fun e => h e.symm), ← List.getD_eq_getElem?_getD]
theorem atL_adv {V : List Int} {r m : Int} (h1 : 1 ≤ r) (h2 : r ≤ V.length) (h3 : 0 ≤ m) (q : Int) : atL (advV V r m) q = if q = r then m else atL V q := by
 have hl : (advV V r m).length = V.length := by simp [advV]
 unfold atL
 rw [hl]
 by_cases h : q = r
 ·subst h
  rw [if_pos ⟨h1, h2⟩, if_pos rfl, nn_adv h1 h2, if_pos rfl]; omega
 ·rw [if_neg h]
  split
  ·rw [nn_adv h1 h2, if_neg (by omega)]
  ·rfl
theorem withL_adv {V : List Int} {r m : Int} (hV : numOk V) (h0 : V.length ≤ 16) (h1 : 1 ≤ r) (h2 : r ≤ V.length) (h3 : 1 ≤ m) (h4 : atL V r < m) : withL V r m = advV V r m := by
 have hol : (oneL r m).length = r.toNat := by simp [oneL]
 have hw : withL V r m = joinL V (oneL r m) := by
  rw [withL, if_neg (by omega)]
 rw [hw]
 apply List.ext_getElem
 ·simp only [pickL, List.length_map, List.length_range, advV, List.length_set]; omega
 ·intro i hi1 hi2
  have hiV : i < V.length := by simpa [advV] using hi2
  have hvi := hV _ (List.getElem_mem hiV)
  have e1 : (joinL V (oneL r m))[i] = max (nn V i) (nn (oneL r m) i) := by simp [pickL]
  have hv : nn V i = V[i] := by rw [nn_in hiV]; omega
  rw [e1, hv]
  have ha : (advV V r m)[i] = if (r - 1).toNat = i then m else V[i] := by simp only [advV, List.getElem_set]
  rw [ha]
  by_cases h : (r - 1).toNat = i
  ·rw [if_pos h]
   have hat : atL V r = V[i] := by
    rw [atL, if_pos ⟨h1, h2⟩, h, hv]
   have ho : nn (oneL r m) i = m := by
    unfold nn oneL
    rw [List.getD_eq_getElem?_getD, List.getElem?_set, if_pos h, if_pos (by rw [List.length_replicate]; omega)]
    show max m 0 = m
    omega
   rw [ho]; omega
  ·rw [if_neg h]
   have ho : nn (oneL r m) i = 0 := by
    unfold nn oneL
    rw [List.getD_eq_getElem?_getD, List.getElem?_set, if_neg h, List.getElem?_replicate]
    split <;> rfl
   rw [ho]; omega
theorem QI.adv {n : Nat} {V : List Int} {L L' : List Wn} {r m : Int} (hq : QI n V L) (h1 : 1 ≤ r) (h2 : r ≤ V.length) (h3 : 1 ≤ m) (h4 : m ≤ 1048576) (hs : L'.Sublist L) (hn : ∀ w ∈ L', w.e.r = r → m < w.e.n) : QI n (advV V r m) L' where
 n1 := hq.n1
 n2 := hq.n2
 len := by simp [advV, hq.len]
 num := fun x hx => by
  rcases List.mem_or_eq_of_mem_set hx with h | rfl
  ·exact hq.num x h
  ·omega
 nd := (hs.map dotW).nodup hq.nd
 fit := fun w hw => hq.fit w (hs.subset hw)
 new := fun w hw => by
  have h5 := hq.new w (hs.subset hw)
  have h6 := of_decide_eq_true (hq.fit w (hs.subset hw))
  have h7 : 1 ≤ w.e.r ∧ 1 ≤ w.e.n := ⟨h6.2.2.1, h6.2.2.2.2.1⟩
  simp only [hasL, decide_eq_true h7.1, decide_eq_true h7.2, Bool.true_and, decide_eq_false_iff_not] at h5 ⊢
  rw [atL_adv h1 h2 (by omega)]
  split
  ·rename_i h; have := hn w hw h; omega
  ·exact h5
 ew := fun w hw => hq.ew w (hs.subset hw)
 rf := fun w hw => hq.rf w (hs.subset hw)
 many := Nat.le_trans hs.length_le hq.many
 nrm := fun w hw => hq.nrm w (hs.subset hw)
 so := hq.so.sublist hs
theorem QI.ripe {n : Nat} {V : List Int} {L : List Wn} {x : Wn} (hq : QI n V L) (hx : x ∈ L) (hl : leqL x.e.deps V = true) : 1 ≤ x.e.r ∧ x.e.r ≤ V.length ∧ 1 ≤ x.e.n ∧ x.e.n ≤ 1048576 ∧ atL V x.e.r = x.e.n - 1 := by
 have h := of_decide_eq_true (hq.fit x hx)
 obtain ⟨_, _, h1, h2, h3, h4, h5, _, h7⟩ := h
 have hlen := hq.len
 refine ⟨h1, by omega, h3, h4, ?_⟩
 have h8 := hq.new x hx
 simp only [hasL, decide_eq_true h1, decide_eq_true h3, Bool.true_and, decide_eq_false_iff_not] at h8
 have h9 := (leqL_iff _ _).1 hl (x.e.r - 1).toNat
 have h10 : nn x.e.deps (x.e.r - 1).toNat = x.e.n - 1 := by
  unfold nn; rw [h7]; omega
 rw [atL, if_pos ⟨h1, by omega⟩] at h8 ⊢
 omega
theorem QI.del {n : Nat} {V : List Int} {L : List Wn} {x : Wn} (hq : QI n V L) (hx : x ∈ L) (hl : leqL x.e.deps V = true) : QI n (advV V x.e.r x.e.n) (delW (dotW x) L) := by
 obtain ⟨h1, h2, h3, h4, h5⟩ := hq.ripe hx hl
 refine hq.adv h1 h2 h3 h4 List.filter_sublist fun w hw hr => ?_
 obtain ⟨hw1, hw2⟩ := delW_mem.1 hw
 have h6 := of_decide_eq_true (hq.fit w hw1)
 have h7 : 1 ≤ w.e.r ∧ 1 ≤ w.e.n := ⟨h6.2.2.1, h6.2.2.2.2.1⟩
 have h8 := hq.new w hw1
 simp only [hasL, decide_eq_true h7.1, decide_eq_true h7.2, Bool.true_and, decide_eq_false_iff_not] at h8
 rw [hr] at h8
 have : w.e.n ≠ x.e.n := fun hc => hw2 (by rw [dotW, dotW, hr, hc])
 omega
theorem delM_wM {d : Int × Int} {a c : List Wn} {x : Wn} (ha : ∀ y ∈ a, dotW y ≠ d) (hx : dotW x = d) : delM d (wM (a ++ x :: c)) = wM (a ++ c) := by
 induction a with
 | nil => simp only [List.nil_append, wM, delM]; rw [if_pos hx]
 | cons y a ih =>
  simp only [List.cons_append, wM, delM]
  rw [if_neg (ha y List.mem_cons_self), ih fun z hz => ha z (List.mem_cons_of_mem _ hz)]
theorem wF_ne {b : World} {F : List SP} {k : Nat} {H l1 l2 : List Wn} {w : Wn} (hk : nth F k = some (all (wF H))) (hH : H = l1 ++ w :: l2) : ∀ W, Sat b F W → ∀ x ∈ l1 ++ l2, x.g ≠ w.g := fun W hS x hx => by
 subst hH
 obtain ⟨m1, m2, hm⟩ := List.append_of_mem hx
 obtain ⟨h1, l, hA⟩ := hS.mem.get hk
 have hp : (wF (l1 ++ w :: l2)).Perm (wP w ++ (wP x ++ wF (m1 ++ m2))) := wF_at.trans (List.Perm.append_left _ (by rw [hm]; exact wF_at))
 have hS2 : Sat b (wP w ++ (wP x ++ wF (m1 ++ m2))) W := ⟨hS.os, hS.tape, hS.output, (ent_perm hp _ hA).mono l⟩
 exact (hS2.ne (i := 0) (j := 3) rfl rfl (by decide)).symm
def delE (V : List Int) (L : List Wn) (d : Int × Int) : Int := match findW d L with
 | none => 26
 | some x => if leqL x.e.deps V then 0 else 25
section
variable {b : World} {F : List SP} {gq n : Nat} {V : List Int} {L R H : List Wn} {d : Int × Int}
theorem hpG_lt {a : List Wn} {k : Nat} (h : hpG k a) (hk : k ≤ a.length) : hpG (a.take k).length (a.take k) := by
 rw [List.length_take, Nat.min_eq_left hk]; exact hpG_take.2 h
set_option maxRecDepth 20000 in
set_option maxHeartbeats 4000000 in
theorem Deliver_S {gm : Nat} {v h : Value} (hd : dotOk d) (hq : QI n V L) (hi : HI L R H) : SC Tryz.prog n_p_hold_Queue_Deliver [.pointer (some ⟨gq, 0, none⟩), dotP d] b (stH gq gm v V h R H F) (fun u F' =>
  (delE V L d ≠ 0 ∧ u = .tuple ⟨[evV ev0, .int .i64 (delE V L d)]⟩ ∧ F' = stH gq gm v V h R H F) ∨
  ∃ x w v' h' R' H', findW d L = some x ∧ leqL x.e.deps V = true ∧ nW w = x ∧ u = .tuple ⟨[evV w.e, .int .i64 0]⟩ ∧ HI (delW d L) R' H' ∧ F' = rZ w.e.dv w.e.deps :: rD w.e.rv w.e.refs :: stH gq gm v' (advV V d.1 d.2) h' R' H' F) := by
 have hl := hi.len
 have hm := hq.many
 refine enterS F_p_hold_Queue_Deliver rfl rfl rfl ?_
 (refine sw_seq (sw_region ?_))
 refine so_box rfl rfl rfl rfl rfl fun g3 => ?_
 skip
 refine so_new rfl rfl rfl rfl rfl fun g4 => ?_
 refine so_ent (ent_keep 7 [2, 3, 4, 5, 6, 0, 1] rfl rfl) ?_
 (refine so_1 rfl ?_; refine so_nil (sn_then ?_); (iterate 2 refine sw_seq ?_); refine sw_region ?_; refine so_1 rfl ?_)
 refine so_callE rfl rfl rfl (none_H) ?_
 (refine so_nil (sn_then ?_); refine sw_cond_f rfl ?_; refine sw_skip ?_; refine sn_then ?_; refine sw_seq ?_)
 refine sw_draw flo _ (by decide +kernel) (Ent.refl _) ?_
 ((iterate 3 refine sd_1 rfl (.inl rfl) ?_); refine sd_l 0 rfl rfl rfl rfl ?_; refine sd_l 6 rfl rfl rfl rfl ?_)
 cases hfw : findW d L with
 | none =>
  refine sd_look0 3 dotMK hd (hi.miss hfw) rfl rfl rfl rfl rfl rfl rfl rfl rfl ?_
  ((iterate 5 refine sd_1 rfl (.inl rfl) ?_))
  refine sd_nil ?_
  (refine sn_then ?_; refine sw_seq ?_; refine sw_block ?_; refine sw_seq (sw_region ?_); (iterate 3 refine so_1 rfl ?_); refine so_nil (sn_then ?_); refine sw_cond_t rfl ?_; refine sw_seq (sw_region ?_); refine so_1 rfl ?_; refine so_s1 5 rfl rfl rfl rfl ?_; refine so_1 rfl ?_; refine so_nil (sn_then ?_); refine sw_ret ?_; refine sn_block_ret ?_; refine sn_then_ret ?_)
  refine sn_ret rfl (.agg 5 rfl rfl rfl rfl rfl (.tmp rfl .nil)) (ent_keep 7 [0, 1, 2, 3, 4] rfl rfl) ?_
  have hE : delE V L d = 26 := by rw [delE, hfw]
  exact .inl ⟨by rw [hE]; decide, by rw [hE]; rfl, rfl⟩
 | some x =>
  obtain ⟨w, hw, hwd, hwx, hwg⟩ := hi.hit hq hfw
  refine sd_look1 3 dotMK hd hwg rfl rfl rfl rfl rfl rfl rfl rfl rfl ?_
  ((iterate 5 refine sd_1 rfl (.inl rfl) ?_))
  refine sd_nil ?_
  (refine sn_then ?_; refine sw_seq ?_; refine sw_block ?_; refine sw_seq (sw_region ?_); (iterate 3 refine so_1 rfl ?_); refine so_nil (sn_then ?_); refine sw_cond_f rfl ?_; refine sw_seq (sw_region ?_); (iterate 2 refine so_1 rfl ?_))
  refine so_callE rfl rfl rfl (ripe_S hw) ?_
  cases hlq : leqL w.e.deps V with
  | false =>
   have hE : delE V L d = 25 := by
    rw [delE, hfw]; show (if leqL x.e.deps V = true then _ else _) = _
    rw [if_neg]; rw [← hwx]; show ¬ leqL w.e.deps V = true; rw [hlq]; decide
   ((iterate 2 refine so_1 rfl ?_); refine so_nil (sn_then ?_); refine sw_cond_t rfl ?_; refine sw_seq (sw_region ?_); refine so_1 rfl ?_; refine so_s1 5 rfl rfl rfl rfl ?_; refine so_1 rfl ?_; refine so_nil (sn_then ?_); refine sw_ret ?_; refine sn_block_ret ?_; refine sn_then_ret ?_)
   refine sn_ret rfl (.agg 5 rfl rfl rfl rfl rfl (.tmp rfl .nil)) (ent_keep 7 [0, 1, 2, 3, 4] rfl rfl) ?_
   exact .inl ⟨by rw [hE]; decide, by rw [hE]; rfl, rfl⟩
  | true =>
  have hxL := (findW_some hfw).1
  have hxl : leqL x.e.deps V = true := by rw [← hwx]; exact hlq
  have hw32 := hi.h32 hq w hw
  obtain ⟨l1, l2, hH⟩ := List.append_of_mem hw
  have hnd := hi.nd hq
  have hoff : ∀ y ∈ l1 ++ l2, dotW y ≠ d := by
   intro y hy hc
   rw [hH] at hnd
   have hp : (l1 ++ w :: l2).Perm (w :: (l1 ++ l2)) := List.perm_middle
   have := (hp.map dotW).nodup_iff.1 hnd
   simp only [List.map_cons, List.nodup_cons] at this
   exact this.1 (List.mem_map.2 ⟨y, hy, hc.trans hwd.symm⟩)
  have hdm : delM d (wM H) = wM (l1 ++ l2) := by rw [hH]; exact delM_wM (fun y hy => hoff y (List.mem_append_left _ hy)) hwd
  ((iterate 2 refine so_1 rfl ?_); refine so_nil (sn_then ?_); refine sw_cond_f rfl ?_; refine sw_skip ?_; refine sn_block ?_; refine sn_then ?_; refine sw_seq ?_)
  refine sw_draw flo (pt gq t_hold_Queue [v, h, .map (some gm)] :: pt g3 t_api_Dot [.int .i64 d.1, .int .i64 d.2] :: F) (by decide +kernel) (ent_keep 7 [0, 6] rfl rfl) ?_
  ((iterate 3 refine sd_1 rfl (.inl rfl) ?_); refine sd_l 0 rfl rfl rfl rfl ?_; refine sd_l 1 rfl rfl rfl rfl ?_)
  refine sd_del 3 dotMK hd rfl rfl rfl rfl rfl rfl rfl rfl (ent_keep 7 [0, 6] rfl rfl) ?_
  refine sd_nil (sn_then (sw_seq ?_))
  rw [hdm]
  refine sw_fact (fun w H => wF_ne (k := 4) rfl hH w H) fun hgne => ?_
  refine sw_fact (fun w H => (H.oat (k := 2) rfl).form) ?_
  rintro ⟨A1, c1, rfl, _, _, _⟩
  have hwR : w ∈ R := hi.perm.symm.subset hw
  refine sw_draw2 flo 10 _ [] rfl (by decide +kernel) (Ent.refl _) ?_
  ((iterate 7 refine sd_1 rfl (.inl rfl) ?_); refine sd_l 0 rfl rfl rfl rfl ?_; refine sd_1 rfl (.inl rfl) ?_)
  refine sd_call rfl rfl rfl rfl (Index_S (H := H) (R := R) (e := w) (kk := 4) rfl hi.sub (fun w H => (H.oat (k := 2) rfl).sl) (by omega) hwR) ?_
  rintro _ _ ⟨⟨i, rfl, hiR, hig⟩, rfl⟩
  refine ⟨Ent.refl _, ?_⟩
  refine sd_nil (sn_draw2 rfl (ent_nil _) ?_)
  obtain ⟨k, hk⟩ : ∃ k, R.length = k + 1 := ⟨R.length - 1, by omega⟩
  have hRi : R[i] = w := by
   have hm1 : R[i] ∈ H := hi.sub _ (List.getElem_mem hiR)
   rw [hH] at hm1
   rcases List.mem_append.1 hm1 with h1 | h1
   ·exact absurd hig (hgne _ (List.mem_append_left _ h1))
   ·rcases List.mem_cons.1 h1 with h1 | h1
    ·exact h1
    ·exact absurd hig (hgne _ (List.mem_append_right _ h1))
  have hrem := hRemove_S (b := b) (F := rZ v V :: mp gm dotP dotOk (wM (l1 ++ l2)) :: pt g4 t_api_Event (evC ev0) :: pt g3 t_api_Dot [.int .i64 d.1, .int .i64 d.2] :: F) (A := A1) (c := c1) (n := k) (gh := gq) (t0 := t_hold_Queue) (off := 1) (cs := fun u => [v, u, .map (some gm)]) (l := R) (H := H) (i := i) (hcq _ _) (hi.h32 hq) hi.sub hk (by omega) (by omega)
  refine sd_fact (p := R.length = k + 1) (fun _ _ => hk) fun hk' => ?_
  refine sd_ent (G := pt gq t_hold_Queue [v, .slice A1 (k + 1) c1, .map (some gm)] :: rW A1 c1 (k + 1) R :: all (wF H) :: rZ v V :: mp gm dotP dotOk (wM (l1 ++ l2)) :: pt g4 t_api_Event (evC ev0) :: pt g3 t_api_Dot [.int .i64 d.1, .int .i64 d.2] :: F) (by rw [← hk']; exact ent_keep 7 [0, 2, 4, 1, 3, 5, 6] rfl rfl) ?_
  refine sd_call rfl rfl rfl rfl hrem ?_
  rintro _ _ ⟨rfl, rfl⟩
  refine ⟨ent_nil _, ?_⟩
  refine sd_nil ?_
  have hR'l : ((remG R i k).take k).length = k := by rw [List.length_take, remG_len]; omega
  have hR'p : ((remG R i k).take k ++ [w]).Perm R := by
   have h1 := last_split (m := remG R i k) (n := k) (by rw [remG_len]; exact hk)
   rw [remG_at hk (by omega), List.getD_eq_getElem?_getD, List.getElem?_eq_getElem hiR, Option.getD_some, hRi] at h1
   rw [← h1]; exact remG_perm hk (by omega)
  have hR'h : hpG ((remG R i k).take k).length ((remG R i k).take k) := by
   have h1 := remG_hp hk (by omega) (by rw [← hk]; exact hi.hp) (i := i)
   exact hpG_lt h1 (by rw [remG_len]; omega)
  generalize hR' : (remG R i k).take k = R' at *
  (refine sn_then ?_; refine sw_seq ?_)
  refine sw_draw2 flo 9 _ [] rfl (by decide +kernel) (Ent.refl _) ?_
  ((iterate 4 refine sd_1 rfl (.inl rfl) ?_); refine sd_l 0 rfl rfl rfl rfl ?_; refine sd_l 6 rfl rfl rfl rfl ?_)
  refine sd_call rfl rfl rfl rfl (SC.ofMade fun w H => With_spec_vector (vlZ (k := 3) rfl w H) (by have := hq.len; have := hq.n2; omega)) ?_
  rintro v2 _ rfl
  refine ⟨ent_keep 1 [] rfl rfl, ?_⟩
  refine sd_fact (fun w H => (H.oat (k := 0) rfl).form) ?_
  rintro ⟨A3, c3, rfl, _, _, _⟩
  ((iterate 2 refine sd_1 rfl (.inl rfl) ?_))
  refine sd_nil (sn_draw2 rfl (ent_nil _) ?_)
  skip
  refine sd_st 1 rfl rfl rfl rfl rfl rfl rfl rfl rfl rfl rfl (ent_nil _) ?_
  refine sd_nil ?_
  (refine sn_then ?_; refine sw_seq (sw_region ?_); (iterate 3 refine so_1 rfl ?_))
  refine so_rd rfl (fun w' H => ex_loadN (cs := evC w.e) rfl rfl rfl (evC_len hw32) (fun j hj => by rw [Nat.zero_add]; exact wF_ev (k := 3) rfl hw w' H j hj)) rfl ?_
  refine so_fact (fun w' H => (wF_dv (k := 3) rfl hw w' H).form) ?_
  rintro ⟨A5, c5, hdv, _, _, _⟩
  refine so_fact (fun w' H => sl_form (wF_rv (k := 3) rfl hw w' H)) ?_
  rintro ⟨A6, c6, hrv, _, _, _⟩
  refine so_stW 6 rfl rfl rfl rfl rfl rfl rfl (evC_len hw32) (evC_one (by rw [hdv]; rfl) (by rw [hrv]; rfl)) (by rw [evC_len hw32]; rfl) ?_
  (refine so_1 rfl ?_; refine so_nil (sn_then ?_); refine sw_ret ?_)
  obtain ⟨h1, h2, h3, h4, h5⟩ := hq.ripe hxL hxl
  have hdx : d = (x.e.r, x.e.n) := (findW_some hfw).2.symm
  have hwl : withL V d.1 d.2 = advV V d.1 d.2 := by
   rw [hdx]; exact withL_adv hq.num (by have := hq.len; have := hq.n2; omega) h1 h2 h3 (by show atL V x.e.r < x.e.n; omega)
  rw [hwl]
  refine sn_ret rfl (.whole 6 rfl rfl rfl rfl (by rw [evC_len hw32]; rfl) (.tmp rfl .nil)) ((ent_keep 8 [3, 0, 1, 2, 5] rfl rfl).trans ((ent_out (A := wF H) (B := wP w) (C := wF (l1 ++ l2)) (by rw [hH]; exact wF_at)).trans (ent_keep 8 [1, 2, 5, 4, 6, 7, 3] rfl rfl))) ?_
  refine .inr ⟨x, w, .slice A3 (advV V d.1 d.2).length c3, .slice A1 k c1, R', l1 ++ l2, rfl, hxl, hwx, rfl, ⟨?_, hR'h, ?_⟩, by simp only [stH, rP, hR'l]⟩
  ·have h6 : (R' ++ [w]).Perm (l1 ++ w :: l2) := hR'p.trans (hH ▸ hi.perm)
   have h7 : (w :: R').Perm (w :: (l1 ++ l2)) := List.perm_append_comm.trans (h6.trans List.perm_middle)
   exact h7.cons_inv
  ·have h6 : L.Perm (nW w :: (l1 ++ l2).map nW) := by
    have := hi.pm
    rw [hH] at this
    exact this.trans ((List.perm_middle (a := w)).map nW)
   have h7 := h6.filter fun y => decide (dotW y ≠ d)
   have e1 : (nW w :: (l1 ++ l2).map nW).filter (fun y => decide (dotW y ≠ d)) = (l1 ++ l2).map nW := by
    rw [List.filter_cons_of_neg (by simp [show dotW (nW w) = d from hwd])]
    rw [List.filter_eq_self]
    intro y hy
    obtain ⟨z, hz, rfl⟩ := List.mem_map.1 hy
    exact decide_eq_true (show dotW (nW z) ≠ d from hoff z hz)
   rw [e1] at h7
   exact h7
theorem Deliver_Q (hd : dotOk d) : SC Tryz.prog n_p_hold_Queue_Deliver [.pointer (some ⟨gq, 0, none⟩), dotP d] b (que gq n V L :: F) (fun u F' =>
  (delE V L d ≠ 0 ∧ u = .tuple ⟨[evV ev0, .int .i64 (delE V L d)]⟩ ∧ F' = que gq n V L :: F) ∨
  ∃ x w, findW d L = some x ∧ leqL x.e.deps V = true ∧ nW w = x ∧ u = .tuple ⟨[evV w.e, .int .i64 0]⟩ ∧ F' = rZ w.e.dv w.e.deps :: rD w.e.rv w.e.refs :: que gq n (advV V d.1 d.2) (delW d L) :: F) := by
 refine SC.opn ?_
 rintro ⟨gm, v, h, R, H⟩ ⟨hq, hi⟩
 dsimp only at hi
 refine (Deliver_S hd hq hi).out ?_
 rintro u _ (⟨h1, h2, rfl⟩ | ⟨x, w, v', h', R', H', h1, h2, h3, h4, h5, rfl⟩)
 ·exact ⟨_, ent_pack (G := fun s : Nat × Value × Value × List Wn × List Wn => stH gq s.1 s.2.1 V s.2.2.1 s.2.2.2.1 s.2.2.2.2 []) (gm, v, h, R, H) ⟨hq, hi⟩, .inl ⟨h1, h2, rfl⟩⟩
 ·have hqd : QI n (advV V d.1 d.2) (delW d L) := by
   have := hq.del (findW_some h1).1 h2
   rw [← (findW_some h1).2]; exact this
  exact ⟨_, ent_cons (ent_cons (ent_pack (G := fun s : Nat × Value × Value × List Wn × List Wn => stH gq s.1 s.2.1 (advV V d.1 d.2) s.2.2.1 s.2.2.2.1 s.2.2.2.2 []) (gm, v', h', R', H') ⟨hqd, h5⟩)), .inr ⟨x, w, h1, h2, h3, h4, rfl⟩⟩
end

theorem QI.start {n : Nat} (h1 : 1 ≤ n) (h2 : n ≤ 16) : QI n (List.replicate n 0) [] where
 n1 := h1
 n2 := h2
 len := List.length_replicate
 num := fun x hx => by rw [(List.mem_replicate.1 hx).2]; omega
 nd := List.nodup_nil
 fit := fun w hw => by simp at hw
 new := fun w hw => by simp at hw
 ew := fun w hw => by simp at hw
 rf := fun w hw => by simp at hw
 many := by simp
 nrm := fun w hw => by simp at hw
 so := .nil
section
variable {b : World} {F : List SP} {gw n : Nat} {V : List Int} {L M : List Wn} {e : Ev} {s : Int} {d : Int × Int}
theorem New_Q {n : Nat} (h1 : 1 ≤ n) (h2 : n ≤ 16) : SC Tryz.prog n_hold_New [.int .i64 n] b F (fun x F' => ∃ gq, x = .tuple ⟨[.pointer (some ⟨gq, 0, none⟩), .int .i64 0]⟩ ∧ F' = que gq n (List.replicate n 0) [] :: F) := by
 refine (New_H h1 h2).out ?_
 rintro u _ ⟨gq, gm, v, rfl, rfl⟩
 exact ⟨_, ent_pack (G := fun s : Nat × Value × Value × List Wn × List Wn => stH gq s.1 s.2.1 (List.replicate n 0) s.2.2.1 s.2.2.2.1 s.2.2.2.2 []) (gm, v, .slice none 0 0, [], []) ⟨QI.start h1 h2, .refl _, fun i _ h => by simp at h, .refl _⟩, gq, rfl, rfl⟩
theorem idx_lt {i : Nat} : ((i : Int)).toNat = i := Int.toNat_natCast i
end

section
variable {b : World} {F : List SP} {gw n : Nat} {V : List Int} {L M : List Wn} {e : Ev} {s : Int} {d : Int × Int}
end

section
variable {α : Type} {f : α → List Value} {l : List α} {sz : Nat}
end
section
variable {b : World} {F : List SP} {gw n : Nat} {V : List Int} {L M : List Wn} {e : Ev} {s : Int} {d : Int × Int}
end

section
variable {b : World} {F : List SP} {gw n : Nat} {V : List Int} {L M : List Wn} {e : Ev} {s : Int} {d : Int × Int}
theorem QI.add {n : Nat} {V : List Int} {L : List Wn} {e : Ev} {s : Int} (hq : QI n V L) (hew : EW e) (hl : e.refs.length ≤ 1000000) : QI n V (addL V L e s) := by
 unfold addL
 split
 ·exact hq
 ·rename_i h1
  have hf : fitsB n e s = true := by
   rw [← hq.len]
   cases hc : fitsB V.length e s with
   | true => rfl
   | false => exact absurd (.inl hc) h1
  have hh : hasL V e.r e.n = false := by
   cases hc : hasL V e.r e.n with
   | false => rfl
   | true => exact absurd (.inr hc) h1
  split
  ·exact hq.setS hf
  ·rename_i h2
   split
   ·exact hq
   ·exact hq.ins hf hh (by simpa using h2) hew hl (by omega)
end

section
variable {b : World} {F : List SP} {gw n : Nat} {V : List Int} {L M : List Wn} {e : Ev} {s : Int} {d : Int × Int}
end

theorem ev0_ew : EW ev0 := ⟨⟨rfl, fun x hx => by rw [(List.mem_replicate.1 hx).2]; decide⟩, ⟨by decide, by decide⟩, fun x hx => by simp at hx, (by unfold I64; decide), fun x hx => by simp at hx, by decide, by decide⟩
section
variable {b : World} {F : List SP} {gq gw n : Nat} {V : List Int} {L M : List Wn} {e : Ev} {s : Int} {d : Int × Int} {gl : Nat}
theorem ent_nil2 : Ent F (rZ (.slice none 0 0) [] :: rD (.slice none 0 0) [] :: F) := (ent_row_nil t_api_ID 32 rfl).trans (ent_row_nil t_int 1 rfl)
theorem que_qi {k : Nat} (hk : nth F k = some (que gq n V L)) : ∀ w, Sat b F w → QI n V L := fun w H => by
 obtain ⟨h1, _, s, hs, _⟩ := H.mem.get hk
 exact hs.1
theorem QI.lds (hq : QI n V L) {x : Wn} (hx : x ∈ L) : x.e.deps.length ≤ 1000000 ∧ x.e.refs.length ≤ 1000000 := by
 have h1 := of_decide_eq_true (hq.fit x hx)
 have h7 : x.e.deps.length = n := h1.2.2.2.2.2.2.1
 have h16 := hq.n2
 exact ⟨by omega, hq.rf x hx⟩
theorem ER.of_rows {i j : Nat} (hi : nth F i = some (rZ e.dv e.deps)) (hj : nth F j = some (rD e.rv e.refs)) : ∀ w, Sat b F w → ER w e := fun w H => ⟨vlZ hi w H, (H.oat hj).sl⟩
end

def holdsW (d : Int × Int) (L : List Wn) : Ev × Int × Bool := match findW d L with
 | none => (nE ev0, 0, false)
 | some x => (nE x.e, x.src, true)
structure Hs (d : Int × Int) (L : List Wn) (y : Ev) (s : Int) (is : Bool) : Prop where
 eq : (nE y, s, is) = holdsW d L
 ew : EW y
 ln : y.deps.length ≤ 1000000 ∧ y.refs.length ≤ 1000000
section
variable {b : World} {F : List SP} {gq gw n : Nat} {V : List Int} {L M : List Wn} {e : Ev} {s : Int} {d : Int × Int} {gl : Nat}
theorem hs_some (hq : QI n V L) {x : Wn} (h : findW d L = some x) (dv rv : Value) : Hs d L (x.e.own dv rv) x.src true :=
 ⟨by rw [holdsW, h]; rfl, (hq.ew x (findW_some h).1).own dv rv, hq.lds (findW_some h).1⟩
theorem hs_none (h : findW d L = none) : Hs d L ev0 0 false := ⟨by rw [holdsW, h], ev0_ew, by decide, by decide⟩
theorem Holds_U (hd : dotOk d) (hq : QI n V L) : SC Tryz.prog n_p_hold_Queue_Holds [.pointer (some ⟨gq, 0, none⟩), dotP d] b (que gq n V L :: F) (fun u F' => ∃ y s is, Hs d L y s is ∧ u = .tuple ⟨[.agg ⟨wsC y s⟩, .bool is]⟩ ∧ F' = rZ y.dv y.deps :: rD y.rv y.refs :: que gq n V L :: F) := by
 refine (Holds_Q hd).out ?_
 rintro u _ (⟨h1, h2, rfl⟩ | ⟨x, dv, rv, h1, h2, rfl⟩)
 ·exact ⟨_, ent_nil2, ev0, 0, false, hs_none h1, h2, rfl⟩
 ·exact ⟨_, Ent.refl _, x.e.own dv rv, x.src, true, hs_some hq h1 dv rv, h2, rfl⟩
theorem rows_one {i j : Nat} (hi : nth F i = some (rZ e.dv e.deps)) (hj : nth F j = some (rD e.rv e.refs)) : ∀ w, Sat b F w → e.dv.oneCell' = true ∧ e.rv.oneCell' = true := fun w H => by
 obtain ⟨A, c, hv, _⟩ := (ER.of_rows hi hj w H).dv.form
 obtain ⟨A2, c2, hv2, _⟩ := sl_form (ER.of_rows hi hj w H).rv
 rw [hv, hv2]; exact ⟨rfl, rfl⟩
end

structure Ac where
 kind : Int
 n : Int
 e : Ev
theorem ripes_dot {n : Nat} {V : List Int} {L : List Wn} (hq : QI n V L) {d : Int × Int} (hd : d ∈ ripes V L) : dotOk d := by
 unfold ripes at hd
 obtain ⟨w, hw, rfl⟩ := List.mem_map.1 hd
 exact hq.dotOk (List.mem_filter.1 hw).1
section
variable {b : World} {F : List SP} {gq gw n : Nat} {V : List Int} {L M : List Wn} {a : Ac}
end

section
variable {b : World} {F : List SP} {gq gw n : Nat} {V : List Int} {L M : List Wn} {e : Ev} {s : Int} {d : Int × Int}
end

abbrev Em := Int × Int × List Int
def cnt (q : Int) (A : List Em) : Int := ((A.filter fun e => decide (e.1 = q)).length : Int)
structure Md (n : Nat) (A : List Em) : Prop where
 r : ∀ i (hi : i < A.length), 1 ≤ A[i].1 ∧ A[i].1 ≤ n
 m : ∀ i (hi : i < A.length), A[i].2.1 = cnt A[i].1 (A.take i) + 1
 len : ∀ i (hi : i < A.length), A[i].2.2.length = n
 own : ∀ i (hi : i < A.length), A[i].2.2.getD (A[i].1 - 1).toNat 0 = A[i].2.1 - 1
 dep : ∀ i (hi : i < A.length) (q : Nat), q < n → 0 ≤ A[i].2.2.getD q 0 ∧ A[i].2.2.getD q 0 ≤ cnt ((q : Int) + 1) (A.take i)
section
variable {n : Nat} {A : List Em} (hm : Md n A)
include hm
end
theorem sub_len {α : Type} : ∀ {l l' : List α}, l.Nodup → (∀ x ∈ l, x ∈ l') → l.length ≤ l'.length
 | [], _, _, _ => by simp
 | a :: l, l', h, hs => by
  obtain ⟨s, t, rfl⟩ := List.append_of_mem (hs a List.mem_cons_self)
  rw [List.nodup_cons] at h
  have := sub_len (l' := s ++ t) h.2 (fun x hx => by
   have h1 := hs x (List.mem_cons_of_mem _ hx)
   rcases List.mem_append.1 h1 with h1 | h1
   ·exact List.mem_append_left _ h1
   ·rcases List.mem_cons.1 h1 with rfl | h1
    ·exact absurd hx h.1
    ·exact List.mem_append_right _ h1)
  simp only [List.length_cons, List.length_append] at this ⊢
  omega
abbrev em (e : Ev) : Em := (e.r, e.n, e.deps)
structure Qp (A : List Em) (V : List Int) (L : List Wn) (out : List Ev) : Prop where
 inA : ∀ w ∈ L, em w.e ∈ A
 outA : ∀ e ∈ out, em e ∈ A
 und : ∀ e ∈ out, hasL V e.r e.n = true
 dl : ∀ e ∈ out, leqL e.deps V = true
 del : ∀ q m, hasL V q m = true → ∃ e ∈ out, e.r = q ∧ e.n = m
 ord : out.Pairwise fun a c => hasL a.deps c.r c.n = false ∧ ¬ (a.r = c.r ∧ a.n = c.n)
 self : ∀ e ∈ out, hasL e.deps e.r e.n = false
 ew : ∀ e ∈ out, EW e
section
variable {n : Nat} {A : List Em} {V : List Int} {L : List Wn} {out : List Ev} (hq : QI n V L) (hp : Qp A V L out)
include hq hp in
end
end Go.Proofs.YtdmfcnjgdicncaaGreat
