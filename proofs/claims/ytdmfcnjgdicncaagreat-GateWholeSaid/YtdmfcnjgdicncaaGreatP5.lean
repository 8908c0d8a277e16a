/- Queues, part one: dots as keys of maps; how what is held lies in memory. Conditions: none. -/
import Derived.Test.YtdmfcnjgdicncaaGreatP4
import Derived.Test.YtdmfcnjgdicncaaGreatP0
import Derived.Test.YtdmfcnjgdicncaaGreatP3
import Derived.Test.YtdmfcnjgdicncaaGreatP2
import Derived.Laws.RangeAny
namespace Go.Proofs.YtdmfcnjgdicncaaGreat
open Go.Eng Go.RowKit Go.WideMaps

theorem dotU : Tryz.prog.underlying t_api_Dot = some (.struct ⟨[⟨ "R", t_int, 0, false, "", "", 0⟩, ⟨ "N", t_int, 1, false, "", "", 8⟩]⟩) := by kernel_rfl
theorem dotMK : MK Tryz.prog t_api_Dot (fun p : Int × Int => dotV p.1 p.2) (fun p => (Lit.int .i64 p.1).wf = true ∧ (Lit.int .i64 p.2).wf = true) where
 law := .of (deep_law (m := 2) (by omega) (by kernel_rfl) (by kernel_rfl) (by rw [dotU]))
 of := fun p hp => by
  have hkt : Tryz.prog.keyType t_api_Dot = true := by kernel_rfl
  have hsz : Tryz.prog.cellsOf t_api_Dot = 2 := by kernel_rfl
  have hci : Tryz.prog.cellsOf t_int = 1 := by kernel_rfl
  have hui : Tryz.prog.underlying t_int = some (.int .i64) := by kernel_rfl
  obtain ⟨m, hm⟩ : ∃ m, Tryz.prog.types.size = m + 1 := ⟨_, (by kernel_rfl : Tryz.prog.types.size = (Tryz.prog.types.size - 1) + 1)⟩
  unfold keyOf
  simp only [dotU]
  rw [if_pos (by simp [hkt, Value.formed, dotU, hsz, dotV]), hm]
  unfold Program.keyLits
  simp only [dotU, Value.cells, dotV]
  rw [if_pos (by simp [hsz])]
  simp [hci, Program.keyLits, hui, hp.1, hp.2]
 inj := fun a c _ _ h => by
  simp only [dotV, Value.agg.injEq, Array.mk.injEq, List.cons.injEq, Value.int.injEq, true_and, and_true] at h
  exact Prod.ext h.1 h.2

structure Ev where
 r : Int
 n : Int
 dv : Value
 deps : List Int
 kind : Int
 repo : ByteArray
 tag : ByteArray
 id : List Int
 rv : Value
 refs : List (List Int)
structure Wn where
 g : Nat
 e : Ev
 src : Int
def evC (e : Ev) : List Value := .int .i64 e.r :: .int .i64 e.n :: e.dv :: .int .i64 e.kind :: .string e.repo :: .string e.tag :: (u8s e.id ++ [e.rv])
abbrev evV (e : Ev) : Value := .agg ⟨evC e⟩
def wsC (e : Ev) (src : Int) : List Value := evC e ++ [.int .i64 src]
abbrev waC (w : Wn) : List Value := wsC w.e w.src
abbrev ints (l : List Int) : List Value := l.map (Value.int .i64)
abbrev rZ (v : Value) (l : List Int) : SP := row t_int 1 v l.length (ints l)
abbrev rD (v : Value) (l : List (List Int)) : SP := row t_api_ID 32 v l.length (idsC l)
def wP (w : Wn) : List SP := [pt w.g t_api_Waiting (waC w), rZ w.e.dv w.e.deps, rD w.e.rv w.e.refs]
def wF : List Wn → List SP
 | [] => []
 | e :: l => wP e ++ wF l
abbrev ptrs (l : List Wn) : List Value := l.map fun w => .pointer (some ⟨w.g, 0, none⟩)
abbrev dotOk (p : Int × Int) : Prop := (Lit.int .i64 p.1).wf = true ∧ (Lit.int .i64 p.2).wf = true
abbrev dotP (p : Int × Int) : Value := dotV p.1 p.2
def wM : List Wn → List ((Int × Int) × Value)
 | [] => []
 | w :: l => ((w.e.r, w.e.n), .pointer (some ⟨w.g, 0, none⟩)) :: wM l
abbrev mpH (gm : Nat) (H : List Wn) : SP := mp gm dotP dotOk (wM H)
abbrev rP (h : Value) (R : List Wn) : SP := row t_p_api_Waiting 1 h R.length (ptrs R)
abbrev stH (gq gm : Nat) (v : Value) (V : List Int) (h : Value) (R H : List Wn) (F : List SP) : List SP :=
 pt gq t_hold_Queue [v, h, .map (some gm)] :: rZ v V :: rP h R :: mpH gm H :: all (wF H) :: F
section
variable {b : World} {F : List SP} {gq gm : Nat} {v h : Value} {V : List Int} {R H : List Wn}
theorem none_nil : SC Tryz.prog n_p_hold_Queue_none [.pointer none] b F (fun v F' => v = .bool true ∧ F' = F) := by
 refine enterS F_p_hold_Queue_none rfl rfl rfl ?_
 (refine sw_seq (sw_region ?_); refine so_1 rfl ?_; refine so_nil (sn_then ?_); refine sw_seq (sw_region ?_); (iterate 10 refine so_1 rfl ?_); refine so_nil (sn_then ?_); refine sw_ret ?_)
 refine sn_ret rfl (.tmp rfl .nil) (Ent.refl _) ?_
 exact ⟨rfl, rfl⟩
theorem none_H : SC Tryz.prog n_p_hold_Queue_none [.pointer (some ⟨gq, 0, none⟩)] b (stH gq gm v V h R H F) (fun x F' => x = .bool false ∧ F' = stH gq gm v V h R H F) := by
 refine enterS F_p_hold_Queue_none rfl rfl rfl ?_
 (refine sw_seq (sw_region ?_); refine so_1 rfl ?_; refine so_nil (sn_then ?_); refine sw_seq (sw_region ?_); (iterate 6 refine so_1 rfl ?_); refine so_l 0 rfl rfl rfl ?_; (iterate 3 refine so_1 rfl ?_); refine so_nil (sn_then ?_); refine sw_ret ?_)
 refine sn_ret rfl (.tmp rfl .nil) (Ent.refl _) ?_
 exact ⟨rfl, rfl⟩
theorem New_H {n : Nat} (h1 : 1 ≤ n) (h2 : n ≤ 16) : SC Tryz.prog n_hold_New [.int .i64 n] b F (fun x F' => ∃ gq gm v, x = .tuple ⟨[.pointer (some ⟨gq, 0, none⟩), .int .i64 0]⟩ ∧ F' = stH gq gm v (List.replicate n 0) (.slice none 0 0) [] [] F) := by
 refine enterS F_hold_New rfl rfl rfl ?_
 (refine sw_seq (sw_region ?_); (iterate 2 refine so_1 rfl ?_); refine so_nil (sn_then ?_); (iterate 2 refine sw_seq ?_); refine sw_region ?_; (iterate 3 refine so_1 rfl ?_))
 refine so_if 6 rfl (fun h => by omega) (fun _ => ?_)
 ((iterate 3 refine so_1 rfl ?_); refine so_nil (sn_then ?_))
 refine sw_if rfl (fun h => by omega) (fun _ => ?_)
 (refine sw_skip ?_; refine sn_then ?_; refine sw_seq (sw_region ?_); refine so_1 rfl ?_)
 refine so_make (sz := 1) (n := n) (cs := ints (List.replicate n 0)) rfl rfl rfl rfl rfl rfl rfl rfl rfl (by omega) (by rw [ints, List.map_replicate]; exact made_one _ _) fun g => ?_
 refine so_ent (G := rZ (.slice (some ⟨g, 0, none⟩) n n) (List.replicate n 0) :: F) (by simp only [rZ, List.length_replicate]; exact Ent.refl _) ?_
 skip
 refine so_mkmap dotP dotOk rfl rfl rfl fun gm => ?_
 (refine so_1 rfl ?_)
 refine so_box rfl rfl rfl rfl rfl fun gq => ?_
 ((iterate 2 refine so_1 rfl ?_); refine so_nil (sn_then ?_); refine sw_ret ?_)
 refine sn_ret rfl (.tmp rfl (.tmp rfl .nil)) (((ent_close (G := [])).trans (ent_row_nil t_p_api_Waiting 1 rfl)).trans (ent_keep 5 [2, 4, 0, 3, 1] rfl rfl)) ?_
 exact ⟨gq, gm, _, rfl, rfl⟩
end

theorem vlZ {b : World} {F : List SP} {v : Value} {l : List Int} {k : Nat} (hk : nth F k = some (rZ v l)) : ∀ w, Sat b F w → VL (Value.int .i64) w v l := fun w H => by
 have := (H.oat hk).sl
 exact this
section
variable {b : World} {F : List SP} {va : Value}
theorem Clone_ints {xs : List Int} (ha : ∀ w, Sat b F w → VL (Value.int .i64) w va xs) (hn : xs.length ≤ 1000000) : SC Tryz.prog n_slices_Clone_sl_int_int [va] b F (fun v F' => F' = rZ v xs :: F) := by
 refine enterS F_slices_Clone_sl_int_int rfl rfl rfl ?_
 refine sw_fact (fun w H => (ha w H).form) ?_
 rintro ⟨A, c, rfl, h1, h2, h3, h4⟩
 cases A with
 | none =>
  have hc := h3 rfl
  have hx : xs = [] := List.length_eq_zero_iff.1 (by omega)
  subst hx
  (refine sw_seq (sw_region ?_); refine so_1 rfl ?_; refine so_nil (sn_then ?_); (iterate 2 refine sw_seq ?_); refine sw_region ?_; (iterate 2 refine so_1 rfl ?_); refine so_nil (sn_then ?_); refine sw_cond_t rfl ?_; refine sw_seq (sw_region ?_); refine so_1 rfl ?_; refine so_nil (sn_then ?_); refine sw_ret ?_; refine sn_then_ret ?_)
  refine sn_ret rfl (.tmp rfl .nil) (ent_row_nil t_int 1 rfl) ?_
  rfl
 | some a =>
  (refine sw_seq (sw_region ?_); refine so_1 rfl ?_; refine so_nil (sn_then ?_); (iterate 2 refine sw_seq ?_); refine sw_region ?_; (iterate 2 refine so_1 rfl ?_); refine so_nil (sn_then ?_); refine sw_cond_f rfl ?_; refine sw_skip ?_; refine sn_then ?_; refine sw_seq (sw_region ?_))
  refine so_lit [] rfl rfl rfl rfl rfl rfl rfl rfl rfl fun g0 => ?_
  refine so_ent (ent_blk_row (n := 0) (sz := 1) rfl rfl (by decide) 0 rfl rfl) ?_
  (refine so_1 rfl ?_)
  refine so_append 0 rfl rfl rfl rfl rfl rfl rfl rfl rfl (up ha (ent_keep 1 [] rfl rfl)) ints_one (by omega) (fun _ => rfl) fun v6 => ?_
  (refine so_1 rfl ?_; refine so_nil (sn_then ?_); refine sw_ret ?_)
  refine sn_ret rfl (.tmp rfl .nil) (Ent.refl _) ?_
  show row t_int 1 v6 _ _ :: F = rZ v6 xs :: F
  simp [rZ, ints]
theorem numbers1_S {x : Int} : SC Tryz.prog n_hold_numbers_1 [.int .i64 x] b F (fun v F' => v = .bool (decide (x < 0 ∨ 1048576 < x)) ∧ F' = F) := by
 refine enterS F_hold_numbers_1 rfl rfl rfl ?_
 (refine sw_seq (sw_region ?_); refine so_1 rfl ?_; refine so_nil (sn_then ?_); refine sw_seq (sw_region ?_); (iterate 3 refine so_1 rfl ?_))
 refine so_if 5 rfl (fun h => ?_) (fun h => ?_)
 ·((iterate 4 refine so_1 rfl ?_); refine so_nil (sn_then ?_); refine sw_ret ?_)
  refine sn_ret rfl (.tmp rfl .nil) (Ent.refl _) ?_
  exact ⟨congrArg Value.bool (by simp [h]), rfl⟩
 ·((iterate 4 refine so_1 rfl ?_); refine so_nil (sn_then ?_); refine sw_ret ?_)
  refine sn_ret rfl (.tmp rfl .nil) (Ent.refl _) ?_
  exact ⟨congrArg Value.bool (by simp [h]), rfl⟩
def numOk (V : List Int) : Prop := ∀ x ∈ V, 0 ≤ x ∧ x ≤ 1048576
instance (V : List Int) : Decidable (numOk V) := by unfold numOk; infer_instance
theorem IndexFunc_S {xs : List Int} (ha : ∀ w, Sat b F w → VL (Value.int .i64) w va xs) (hn : xs.length ≤ 1000000) : SC Tryz.prog n_slices_IndexFunc_sl_int_int [va, .func (.func n_hold_numbers_1) ⟨[]⟩ ⟨[]⟩] b F (fun v F' => (∃ i : Int, v = .int .i64 i ∧ (0 ≤ i ↔ ¬ numOk xs)) ∧ F' = F) := by
 refine enterS F_slices_IndexFunc_sl_int_int rfl rfl rfl ?_
 refine sw_fact (fun w H => (ha w H).form) ?_
 rintro ⟨A, c, rfl, h1, h2, h3, h4⟩
 (refine sw_seq (sw_region ?_); refine so_1 rfl ?_; refine so_nil (sn_then ?_); (iterate 2 refine sw_seq ?_); refine sw_region ?_; (iterate 3 refine so_1 rfl ?_); refine so_nil (sn_then ?_); refine sw_block ?_)
 refine sw_loop (S := Nat) (fun i => [(0, .slice A xs.length c), (1, .func (.func n_hold_numbers_1) ⟨[]⟩ ⟨[]⟩), (7, .int .i64 xs.length), (8, .int .i64 (i : Int))]) (fun _ => F) (fun i => i ≤ xs.length ∧ ∀ k (hk : k < xs.length), k < i → 0 ≤ xs[k] ∧ xs[k] ≤ 1048576) (fun i => xs.length - i) 0 ⟨rfl, rfl, rfl, rfl, trivial⟩ (Ent.refl _) ⟨Nat.zero_le _, fun k _ h => absurd h (Nat.not_lt_zero k)⟩ ?_
 rintro i ⟨hi, hk⟩
 (refine sw_seq (sw_region ?_); refine so_1 rfl ?_; refine so_nil (sn_then ?_); refine sw_seq ?_)
 refine sw_if rfl (fun h => ?_) (fun h => ?_)
 ·have h' : i < xs.length := by omega
  obtain ⟨bk, off, rfl⟩ := h4 (by omega)
  (refine sw_skip ?_; refine sn_then ?_; refine sw_seq ?_; refine sw_block ?_; refine sw_seq (sw_region ?_); (iterate 2 refine so_1 rfl ?_); refine so_nil (sn_then ?_); refine sw_seq (sw_region ?_); (iterate 3 refine so_1 rfl ?_); refine so_2 rfl (by omega) ?_)
  refine so_rd rfl (fun w H => ex_load rfl rfl rfl (by rw [mulz_eq]; simpa using VL.at (ha w H) i h')) rfl ?_
  refine so_callE rfl rfl rfl (numbers1_S) ?_
  by_cases hx : xs[i] < 0 ∨ 1048576 < xs[i]
  ·refine so_know 16 (.bool true) rfl (congrArg Value.bool (decide_eq_true hx)) ?_
   (refine so_nil (sn_then ?_); refine sw_cond_t rfl ?_; refine sw_seq (sw_region ?_); (iterate 2 refine so_1 rfl ?_); refine so_nil (sn_then ?_); refine sw_ret ?_; refine sn_block_ret ?_; refine sn_then_ret ?_; refine sn_loop_ret ?_; refine sn_block_ret ?_; refine sn_then_ret ?_)
   refine sn_ret rfl (.tmp rfl .nil) (Ent.refl _) ?_
   refine ⟨⟨i, rfl, fun _ hok => ?_, fun _ => by omega⟩, rfl⟩
   have := hok _ (List.getElem_mem h')
   omega
  ·refine so_know 16 (.bool false) rfl (congrArg Value.bool (decide_eq_false hx)) ?_
   (refine so_nil (sn_then ?_); refine sw_cond_f rfl ?_; refine sw_skip ?_; refine sn_block ?_; refine sn_then ?_; refine sw_region ?_; refine so_2 rfl (by (unfold I64; omega)) ?_; refine so_1 rfl ?_; refine so_nil ?_)
   refine sn_round (i + 1) ⟨rfl, rfl, rfl, rfl, trivial⟩ (Ent.refl _) ⟨h', fun k hkk hlt => ?_⟩ (by omega)
   by_cases e : k = i
   ·subst e; omega
   ·exact hk k hkk (by omega)
 ·(refine sw_exit ?_; refine sn_then_exit ?_; refine sn_loop_exit ?_; refine sn_block_exit ?_; refine sn_then ?_; refine sw_seq (sw_region ?_); refine so_1 rfl ?_; refine so_nil (sn_then ?_); refine sw_ret ?_)
  refine sn_ret rfl (.tmp rfl .nil) (Ent.refl _) ?_
  refine ⟨⟨-1, rfl, fun hc => by omega, fun hc => (hc fun x hx => ?_).elim⟩, rfl⟩
  obtain ⟨k, hkk, rfl⟩ := List.mem_iff_getElem.1 hx
  exact hk k hkk (by omega)
theorem ContainsFunc_S {xs : List Int} (ha : ∀ w, Sat b F w → VL (Value.int .i64) w va xs) (hn : xs.length ≤ 1000000) : SC Tryz.prog n_slices_ContainsFunc_sl_int_int [va, .func (.func n_hold_numbers_1) ⟨[]⟩ ⟨[]⟩] b F (fun v F' => v = .bool (!decide (numOk xs)) ∧ F' = F) := by
 refine enterS F_slices_ContainsFunc_sl_int_int rfl rfl rfl ?_
 (refine sw_seq (sw_region ?_); refine so_1 rfl ?_; refine so_nil (sn_then ?_); refine sw_seq (sw_region ?_); (iterate 2 refine so_1 rfl ?_))
 refine so_call rfl rfl rfl (IndexFunc_S ha hn) ?_
 rintro _ _ ⟨⟨i, rfl, hi⟩, rfl⟩
 ((iterate 2 refine so_1 rfl ?_); refine so_nil (sn_then ?_); refine sw_ret ?_)
 refine sn_ret rfl (.tmp rfl .nil) (Ent.refl _) ?_
 refine ⟨congrArg Value.bool ?_, rfl⟩
 by_cases h : numOk xs
 ·simp [h] at hi ⊢; omega
 ·simp [h] at hi ⊢; omega
theorem numbers_S {xs : List Int} {n : Nat} (ha : ∀ w, Sat b F w → VL (Value.int .i64) w va xs) (hn : xs.length ≤ 1000000) : SC Tryz.prog n_hold_numbers [va, .int .i64 n] b F (fun v F' => v = .bool (decide (xs.length = n) && decide (numOk xs)) ∧ F' = F) := by
 refine enterS F_hold_numbers rfl rfl rfl ?_
 refine sw_fact (fun w H => (ha w H).form) ?_
 rintro ⟨A, c, rfl, h1, h2, h3, h4⟩
 (refine sw_seq (sw_region ?_); refine so_1 rfl ?_; refine so_nil (sn_then ?_); refine sw_seq (sw_region ?_); (iterate 5 refine so_1 rfl ?_))
 by_cases h : xs.length = n
 ·refine so_know 9 (.bool true) rfl (by simp [h]) ?_
  (refine so_1 rfl ?_)
  refine so_callE rfl rfl rfl (ContainsFunc_S ha hn) ?_
  ((iterate 3 refine so_1 rfl ?_); refine so_nil (sn_then ?_); refine sw_ret ?_)
  refine sn_ret rfl (.tmp rfl .nil) (Ent.refl _) ?_
  exact ⟨congrArg Value.bool (by simp [h]), rfl⟩
 ·refine so_know 9 (.bool false) rfl (by simp; omega) ?_
  ((iterate 5 refine so_1 rfl ?_); refine so_nil (sn_then ?_); refine sw_ret ?_)
  refine sn_ret rfl (.tmp rfl .nil) (Ent.refl _) ?_
  exact ⟨congrArg Value.bool (by simp [h]), rfl⟩
end

theorem evC_len {e : Ev} (h : e.id.length = 32) : (evC e).length = 39 := by simp [evC, h]
theorem wsC_len {e : Ev} {s : Int} (h : e.id.length = 32) : (wsC e s).length = 40 := by simp [wsC, evC_len h]
theorem evC_rv {e : Ev} (h : e.id.length = 32) : nth (evC e) 38 = some e.rv := by
 rw [nth_eq]; simp only [evC, List.getElem?_cons_succ]
 rw [List.getElem?_append_right (by simp [h]), u8s_len, h]; rfl
theorem wsC_rv {e : Ev} {s : Int} (h : e.id.length = 32) : nth (wsC e s) 38 = some e.rv := by
 rw [nth_eq, wsC, List.getElem?_append_left (by rw [evC_len h]; omega), ← nth_eq]; exact evC_rv h
theorem wsC_src {e : Ev} {s : Int} (h : e.id.length = 32) : nth (wsC e s) 39 = some (.int .i64 s) := by
 rw [nth_eq, wsC, List.getElem?_append_right (by rw [evC_len h]; omega), evC_len h]; rfl
theorem set_at {α : Type} (a : List α) (x y : α) (m : List α) : (a ++ x :: m).set a.length y = a ++ y :: m := by
 induction a with
 | nil => rfl
 | cons c a ih => simp only [List.cons_append, List.length_cons, List.set_cons_succ, ih]
theorem wsC_strv {e : Ev} {s : Int} {v : Value} (h : e.id.length = 32) : stO (wsC e s) 38 v = some (wsC { e with rv := v } s) := by
 refine stO_ok (by rw [wsC_len h]; omega) ?_
 simp only [wsC, evC, List.cons_append, List.append_assoc, List.nil_append, List.set_cons_succ]
 have := set_at (u8s e.id) e.rv v [.int .i64 s]
 rw [u8s_len, h] at this
 rw [this]
theorem wsC_stsrc {e : Ev} {s s' : Int} (h : e.id.length = 32) : stO (wsC e s) 39 (.int .i64 s') = some (wsC e s') := by
 refine stO_ok (by rw [wsC_len h]; omega) ?_
 have := set_at (evC e) (Value.int .i64 s) (.int .i64 s') []
 rw [evC_len h] at this
 exact this
theorem evC_one {e : Ev} (h1 : e.dv.oneCell' = true) (h2 : e.rv.oneCell' = true) : ∀ u ∈ evC e, u.oneCell' = true := by
 intro u hu
 simp only [evC, List.mem_cons, List.mem_append, List.not_mem_nil, or_false] at hu
 rcases hu with rfl | rfl | rfl | rfl | rfl | rfl | hu | rfl <;> first | rfl | assumption | exact u8s_one _ u hu
theorem wsC_one {e : Ev} {s : Int} (h1 : e.dv.oneCell' = true) (h2 : e.rv.oneCell' = true) : ∀ u ∈ wsC e s, u.oneCell' = true := by
 intro u hu
 rcases List.mem_append.1 hu with hu | hu
 ·exact evC_one h1 h2 u hu
 ·rw [List.mem_singleton.1 hu]; rfl
theorem sl_form {w : World} {sz n : Nat} {v : Value} {cs : List Value} (h : SL w sz v n cs) : ∃ A c, v = .slice A n c ∧ n ≤ c ∧ c ≤ 9223372036854775807 ∧ (A = none → c = 0) ∧ (0 < n → ∃ bk off, A = some ⟨bk, off, none⟩) ∧ cs.length = n * sz := by
 obtain ⟨A, c, h1, h2, h3, h4, h5, h6⟩ := h
 exact ⟨A, c, h1, h3, h4, h5, fun hp => by obtain ⟨bk, off, hA, _⟩ := h6 hp; exact ⟨bk, off, hA⟩, h2⟩
theorem idsC_one (l : List (List Int)) : ∀ u ∈ idsC l, u.oneCell' = true := by
 induction l with
 | nil => intro u hu; simp [idsC] at hu
 | cons a l ih =>
  intro u hu
  rcases List.mem_append.1 hu with hu | hu
  ·exact u8s_one _ u hu
  ·exact ih u hu
section
variable {b : World} {F : List SP} {va : Value}
theorem Clone_ids {l : List (List Int)} (ha : ∀ w, Sat b F w → SL w 32 va l.length (idsC l)) (hn : l.length ≤ 1000000) : SC Tryz.prog n_slices_Clone_sl_api_ID_api_ID [va] b F (fun v F' => F' = rD v l :: F) := by
 refine enterS F_slices_Clone_sl_api_ID_api_ID rfl rfl rfl ?_
 refine sw_fact (fun w H => sl_form (ha w H)) ?_
 rintro ⟨A, c, rfl, h1, h2, h3, h4, _⟩
 cases A with
 | none =>
  have hc := h3 rfl
  have hx : l = [] := List.length_eq_zero_iff.1 (by omega)
  subst hx
  (refine sw_seq (sw_region ?_); refine so_1 rfl ?_; refine so_nil (sn_then ?_); (iterate 2 refine sw_seq ?_); refine sw_region ?_; (iterate 2 refine so_1 rfl ?_); refine so_nil (sn_then ?_); refine sw_cond_t rfl ?_; refine sw_seq (sw_region ?_); refine so_1 rfl ?_; refine so_nil (sn_then ?_); refine sw_ret ?_; refine sn_then_ret ?_)
  refine sn_ret rfl (.tmp rfl .nil) (ent_row_nil t_api_ID 32 rfl) ?_
  rfl
 | some a =>
  (refine sw_seq (sw_region ?_); refine so_1 rfl ?_; refine so_nil (sn_then ?_); (iterate 2 refine sw_seq ?_); refine sw_region ?_; (iterate 2 refine so_1 rfl ?_); refine so_nil (sn_then ?_); refine sw_cond_f rfl ?_; refine sw_skip ?_; refine sn_then ?_; refine sw_seq (sw_region ?_))
  refine so_lit0 rfl rfl rfl rfl rfl fun g0 => ?_
  refine so_ent (ent_blk_row (n := 0) (sz := 32) rfl rfl (by decide) 0 rfl rfl) ?_
  (refine so_1 rfl ?_)
  refine so_append 0 rfl rfl rfl rfl rfl rfl rfl rfl rfl (up ha (ent_keep 1 [] rfl rfl)) (idsC_one l) (by omega) (fun _ => rfl) fun v6 => ?_
  (refine so_1 rfl ?_; refine so_nil (sn_then ?_); refine sw_ret ?_)
  refine sn_ret rfl (.tmp rfl .nil) (Ent.refl _) ?_
  show row t_api_ID 32 v6 _ _ :: F = rD v6 l :: F
  simp [rD]
theorem ptrs_one {H : List Wn} : ∀ u ∈ ptrs H, u.oneCell' = true := by
 intro u hu; obtain ⟨x, _, rfl⟩ := List.mem_map.1 hu; rfl
theorem Clone_ptrs {H : List Wn} (ha : ∀ w, Sat b F w → SL w 1 va H.length (ptrs H)) (hn : H.length ≤ 1000000) : SC Tryz.prog n_slices_Clone_hold_waiting_p_api_Waiting [va] b F (fun v F' => F' = row t_p_api_Waiting 1 v H.length (ptrs H) :: F) := by
 refine enterS F_slices_Clone_hold_waiting_p_api_Waiting rfl rfl rfl ?_
 refine sw_fact (fun w H => sl_form (ha w H)) ?_
 rintro ⟨A, c, rfl, h1, h2, h3, h4, _⟩
 cases A with
 | none =>
  have hc := h3 rfl
  have hx : H = [] := List.length_eq_zero_iff.1 (by omega)
  subst hx
  (refine sw_seq (sw_region ?_); refine so_1 rfl ?_; refine so_nil (sn_then ?_); (iterate 2 refine sw_seq ?_); refine sw_region ?_; (iterate 2 refine so_1 rfl ?_); refine so_nil (sn_then ?_); refine sw_cond_t rfl ?_; refine sw_seq (sw_region ?_); refine so_1 rfl ?_; refine so_nil (sn_then ?_); refine sw_ret ?_; refine sn_then_ret ?_)
  refine sn_ret rfl (.tmp rfl .nil) (ent_row_nil t_p_api_Waiting 1 rfl) ?_
  rfl
 | some a =>
  (refine sw_seq (sw_region ?_); refine so_1 rfl ?_; refine so_nil (sn_then ?_); (iterate 2 refine sw_seq ?_); refine sw_region ?_; (iterate 2 refine so_1 rfl ?_); refine so_nil (sn_then ?_); refine sw_cond_f rfl ?_; refine sw_skip ?_; refine sn_then ?_; refine sw_seq (sw_region ?_))
  refine so_lit [] rfl rfl rfl rfl rfl rfl rfl rfl rfl fun g0 => ?_
  refine so_ent (ent_blk_row (n := 0) (sz := 1) rfl rfl (by decide) 0 rfl rfl) ?_
  (refine so_1 rfl ?_)
  refine so_append 0 rfl rfl rfl rfl rfl rfl rfl rfl rfl (up ha (ent_keep 1 [] rfl rfl)) ptrs_one (by omega) (fun _ => rfl) fun v6 => ?_
  (refine so_1 rfl ?_; refine so_nil (sn_then ?_); refine sw_ret ?_)
  refine sn_ret rfl (.tmp rfl .nil) (Ent.refl _) ?_
  show row t_p_api_Waiting 1 v6 _ _ :: F = row t_p_api_Waiting 1 v6 _ _ :: F
  simp
end

def Ev.own (e : Ev) (dv rv : Value) : Ev := { e with dv := dv, rv := rv }
section
variable {b : World} {F : List SP}
set_option maxRecDepth 20000 in
set_option maxHeartbeats 1000000 in
theorem own_S {e : Ev} {s : Int} (h32 : e.id.length = 32) (ha : ∀ w, Sat b F w → VL (Value.int .i64) w e.dv e.deps) (hr : ∀ w, Sat b F w → SL w 32 e.rv e.refs.length (idsC e.refs)) (hd : e.deps.length ≤ 1000000) (hl : e.refs.length ≤ 1000000) :
  SC Tryz.prog n_hold_own [.agg ⟨wsC e s⟩] b F (fun v F' => ∃ dv rv, v = .agg ⟨wsC (e.own dv rv) s⟩ ∧ F' = rZ dv e.deps :: rD rv e.refs :: F) := by
 refine enterS F_hold_own rfl rfl rfl ?_
 (refine sw_seq (sw_region ?_))
 refine so_box rfl rfl rfl rfl rfl fun g1 => ?_
 skip
 refine so_new rfl rfl rfl rfl rfl fun g2 => ?_
 refine so_nil (sn_then (sw_seq ?_))
 refine sw_draw2 flo 10 (pt g1 t_api_Waiting (wsC e s) :: F) [] rfl (by decide +kernel) (ent_keep 2 [1] rfl rfl) ?_
 ((iterate 2 refine sd_1 rfl (.inl rfl) ?_); refine sd_l 0 rfl rfl rfl rfl ?_)
 refine sd_call rfl rfl rfl rfl (Clone_ints (up ha (ent_keep 2 [] rfl rfl)) hd) ?_
 rintro dv _ rfl
 refine ⟨ent_keep 3 [2] rfl rfl, ?_⟩
 ((iterate 2 refine sd_1 rfl (.inl rfl) ?_))
 refine sd_ld 0 rfl rfl rfl rfl rfl rfl (wsC_rv h32) rfl rfl ?_
 refine sd_call rfl rfl rfl rfl (Clone_ids (up hr (ent_keep 3 [] rfl rfl)) hl) ?_
 rintro rv _ rfl
 refine ⟨ent_keep 4 [3] rfl rfl, ?_⟩
 ((iterate 2 refine sd_1 rfl (.inl rfl) ?_))
 refine sd_nil (sn_draw2 rfl (ent_nil _) ?_)
 refine sd_fact (fun w H => (H.oat (k := 1) rfl).form) ?_
 rintro ⟨A1, c1, rfl, _, _, _⟩
 refine sd_fact (fun w H => (H.oat (k := 0) rfl).form) ?_
 rintro ⟨A2, c2, rfl, _, _, _⟩
 skip
 refine sd_st 3 rfl rfl rfl rfl rfl rfl rfl rfl rfl (show stO (wsC e s) 2 _ = some (wsC { e with dv := .slice A1 e.deps.length c1 } s) from rfl) rfl (ent_nil _) ?_
 ((iterate 2 refine sd_1 rfl (.inl rfl) ?_))
 refine sd_st 3 rfl rfl rfl rfl rfl rfl rfl rfl rfl (show stO _ 38 _ = some (wsC (e.own (.slice A1 e.deps.length c1) (.slice A2 e.refs.length c2)) s) from wsC_strv (e := { e with dv := .slice A1 e.deps.length c1 }) h32) rfl (ent_nil _) ?_
 have h33 : (e.own (.slice A1 e.deps.length c1) (.slice A2 e.refs.length c2)).id.length = 32 := h32
 have hone := wsC_one (e := e.own (.slice A1 e.deps.length c1) (.slice A2 e.refs.length c2)) (s := s) rfl rfl
 refine sd_fact (p := ∃ e2, e2 = e.own (.slice A1 e.deps.length c1) (.slice A2 e.refs.length c2)) (fun _ _ => ⟨_, rfl⟩) ?_
 rintro ⟨e2, he2⟩
 rw [← he2] at h33 hone ⊢
 skip
 refine sd_nil ?_
 (refine sn_then ?_; refine sw_seq (sw_region ?_))
 refine so_ldA 3 rfl rfl rfl rfl rfl rfl (segO_all (by rw [wsC_len h33]; rfl)) rfl ?_
 refine so_stW 2 rfl rfl rfl rfl rfl rfl rfl (wsC_len h33) hone (by rw [wsC_len h33]; rfl) ?_
 (refine so_nil (sn_then ?_); refine sw_ret ?_)
 refine sn_ret rfl (.whole 2 rfl rfl rfl rfl (by rw [wsC_len h33]; rfl) .nil) (ent_keep 4 [1, 0] rfl rfl) ?_
 exact ⟨_, _, by rw [he2]; rfl, rfl⟩
end
end Go.Proofs.YtdmfcnjgdicncaaGreat
namespace Go.Heap

class HOrd (α : Type) where
 lt : α → α → Bool
 d : α
class HLaw (α : Type) [HOrd α] : Prop where
 asym : ∀ x y : α, HOrd.lt x y = true → ¬ HOrd.lt y x = true
 trans : ∀ x y z : α, ¬ HOrd.lt y x = true → ¬ HOrd.lt z y = true → ¬ HOrd.lt z x = true
def swapG {α : Type} [HOrd α] (l : List α) (i j : Nat) : List α := (l.set i (l.getD j HOrd.d)).set j (l.getD i HOrd.d)
def upG {α : Type} [HOrd α] : Nat → List α → Nat → List α
 | 0, l, _ => l
 | k + 1, l, j => if j = 0 then l else if HOrd.lt (l.getD j HOrd.d) (l.getD ((j - 1) / 2) HOrd.d) = true then upG k (swapG l ((j - 1) / 2) j) ((j - 1) / 2) else l
theorem swapG_len {α : Type} [HOrd α] (l : List α) (i j : Nat) : (swapG l i j).length = l.length := by simp [swapG]
theorem upG_fuel {α : Type} [HOrd α] (k : Nat) : ∀ (l : List α) (p : Nat), p < k → upG k l p = upG (p + 1) l p := by
 induction k using Nat.strongRecOn with
 | ind k ih =>
  intro l p hp
  cases k with
  | zero => omega
  | succ k =>
   simp only [upG]
   split
   ·rfl
   ·split
    ·exact (ih k (by omega) _ _ (by omega)).trans (ih p (by omega) _ _ (by omega)).symm
    ·rfl
def dnJG {α : Type} [HOrd α] (n : Nat) (l : List α) (i : Nat) : Nat := if 2 * i + 2 < n ∧ HOrd.lt (l.getD (2 * i + 2) HOrd.d) (l.getD (2 * i + 1) HOrd.d) = true then 2 * i + 2 else 2 * i + 1
theorem dnJG_lt {α : Type} [HOrd α] {n : Nat} {l : List α} {i : Nat} (h : ¬ n ≤ 2 * i + 1) : dnJG n l i < n ∧ i < dnJG n l i := by unfold dnJG; split <;> omega
def dnG {α : Type} [HOrd α] : Nat → Nat → List α → Nat → List α
 | 0, _, l, _ => l
 | k + 1, n, l, i => if n ≤ 2 * i + 1 then l else if HOrd.lt (l.getD (dnJG n l i) HOrd.d) (l.getD i HOrd.d) = true then dnG k n (swapG l i (dnJG n l i)) (dnJG n l i) else l
theorem dnG_fuel {α : Type} [HOrd α] (k : Nat) : ∀ (n : Nat) (l : List α) (i : Nat), n - i ≤ k → dnG k n l i = dnG (n - i) n l i := by
 induction k using Nat.strongRecOn with
 | ind k ih =>
  intro n l i hk
  cases k with
  | zero => rw [show n - i = 0 by omega]
  | succ k =>
   rcases Nat.eq_zero_or_pos (n - i) with h0 | h0
   ·rw [h0]; simp only [dnG]; rw [if_pos (by omega)]
   ·obtain ⟨m, hm⟩ : ∃ m, n - i = m + 1 := ⟨n - i - 1, by omega⟩
    rw [hm]
    simp only [dnG]
    split
    ·rfl
    ·rename_i h1
     have := dnJG_lt (l := l) h1
     split
     ·exact (ih k (by omega) _ _ _ (by omega)).trans (ih m (by omega) _ _ _ (by omega)).symm
     ·rfl
theorem upG_len {α : Type} [HOrd α] (k : Nat) : ∀ (l : List α) (j : Nat), (upG k l j).length = l.length := by
 induction k with
 | zero => intro l j; rfl
 | succ k ih => intro l j; simp only [upG]; split; rfl; split; rw [ih, swapG_len]; rfl
theorem dnG_len {α : Type} [HOrd α] (k : Nat) : ∀ (n : Nat) (l : List α) (j : Nat), (dnG k n l j).length = l.length := by
 induction k with
 | zero => intro n l j; rfl
 | succ k ih => intro n l j; simp only [dnG]; split; rfl; split; rw [ih, swapG_len]; rfl
def popG {α : Type} [HOrd α] (l : List α) : List α := dnG (l.length - 1) (l.length - 1) (swapG l 0 (l.length - 1)) 0
theorem popG_len {α : Type} [HOrd α] (l : List α) : (popG l).length = l.length := by rw [popG, dnG_len, swapG_len]
def leG {α : Type} [HOrd α] (x y : α) : Prop := ¬ HOrd.lt y x = true
theorem leG_of {α : Type} [HOrd α] [HLaw α] {x y : α} (h : HOrd.lt x y = true) : leG x y := HLaw.asym _ _ h
theorem leG_trans {α : Type} [HOrd α] [HLaw α] {x y z : α} (h1 : leG x y) (h2 : leG y z) : leG x z := HLaw.trans _ _ _ h1 h2
abbrev atG {α : Type} [HOrd α] (l : List α) (i : Nat) : α := l.getD i HOrd.d
theorem swapG_at {α : Type} [HOrd α] (l : List α) {i j : Nat} (hi : i < l.length) (hj : j < l.length) (k : Nat) : atG (swapG l i j) k = if k = j then atG l i else if k = i then atG l j else atG l k := by
 simp only [atG, swapG, List.getD_eq_getElem?_getD, List.getElem?_set, List.length_set]
 repeat' split
 all_goals first | rfl | omega | simp_all
theorem swapG_perm {α : Type} [HOrd α] {l : List α} {i j : Nat} (hi : i < l.length) (hj : j < l.length) : (swapG l i j).Perm l := by
 have := List.set_set_perm hi hj
 simp only [swapG, List.getD_eq_getElem?_getD, List.getElem?_eq_getElem hi, List.getElem?_eq_getElem hj, Option.getD_some]
 exact this
def hpG {α : Type} [HOrd α] (n : Nat) (l : List α) : Prop := ∀ i, 0 < i → i < n → leG (atG l ((i - 1) / 2)) (atG l i)
def upGI {α : Type} [HOrd α] (l : List α) (j : Nat) : Prop := (∀ i, 0 < i → i < l.length → i ≠ j → leG (atG l ((i - 1) / 2)) (atG l i)) ∧ ∀ c, 0 < c → c < l.length → (c - 1) / 2 = j → 0 < j → leG (atG l ((j - 1) / 2)) (atG l c)
theorem upG_hp {α : Type} [HOrd α] [HLaw α] (k : Nat) : ∀ (l : List α) (j : Nat), j < k → j < l.length → upGI l j → hpG l.length (upG k l j) := by
 induction k with
 | zero => intro l j h; omega
 | succ k ih =>
  intro l j hk hj ⟨h1, h2⟩
  simp only [upG]
  split
  ·rename_i h0; intro i a b; exact h1 i a b (by omega)
  ·rename_i h0
   have hp : (j - 1) / 2 < j := by omega
   split
   ·rename_i hlt
    have sw := swapG_at l (i := (j - 1) / 2) (j := j) (by omega) hj
    have hle := leG_of hlt
    have := ih (swapG l ((j - 1) / 2) j) ((j - 1) / 2) (by omega) (by rw [swapG_len]; omega) ⟨fun i a b c => ?_, fun c a b d e => ?_⟩
    ·rwa [swapG_len] at this
    ·rw [swapG_len] at b
     rw [sw, sw]
     by_cases e1 : i = j
     ·subst e1
      rw [if_neg (by omega), if_pos rfl, if_pos rfl]; exact hle
     ·rw [if_neg e1, if_neg c]
      by_cases e2 : (i - 1) / 2 = j
      ·rw [if_pos e2]; exact h2 i a b e2 (by omega)
      ·rw [if_neg e2]
       by_cases e3 : (i - 1) / 2 = (j - 1) / 2
       ·rw [if_pos e3]; exact leG_trans hle (e3 ▸ h1 i a b e1)
       ·rw [if_neg e3]; exact h1 i a b e1
    ·rw [swapG_len] at b
     rw [sw, sw, if_neg (by omega), if_neg (by omega)]
     have hpp := h1 ((j - 1) / 2) (by omega) (by omega) (by omega)
     by_cases e1 : c = j
     ·rw [if_pos e1]; exact hpp
     ·rw [if_neg e1, if_neg (by omega)]
      exact leG_trans hpp (d ▸ h1 c a b e1)
   ·rename_i hlt
    intro i a b
    by_cases e1 : i = j
    ·subst e1; exact hlt
    ·exact h1 i a b e1
theorem upG_perm {α : Type} [HOrd α] (k : Nat) : ∀ (l : List α) (j : Nat), j < l.length → (upG k l j).Perm l := by
 induction k with
 | zero => intro l j _; exact .refl _
 | succ k ih =>
  intro l j hj
  simp only [upG]
  split
  ·exact .refl _
  ·split
   ·exact (ih _ _ (by rw [swapG_len]; omega)).trans (swapG_perm (by omega) hj)
   ·exact .refl _
def dnGI {α : Type} [HOrd α] (n : Nat) (l : List α) (i : Nat) : Prop := (∀ k, 0 < k → k < n → (k - 1) / 2 ≠ i → leG (atG l ((k - 1) / 2)) (atG l k)) ∧ ∀ k, 0 < k → k < n → (k - 1) / 2 = i → 0 < i → leG (atG l ((i - 1) / 2)) (atG l k)
theorem dnJG_le {α : Type} [HOrd α] [HLaw α] {n : Nat} {l : List α} {i : Nat} (k : Nat) (h0 : 0 < k) (hk : k < n) (h : (k - 1) / 2 = i) : leG (atG l (dnJG n l i)) (atG l k) := by
 have hself : leG (atG l k) (atG l k) := fun h => HLaw.asym _ _ h h
 have hk' : k = 2 * i + 1 ∨ k = 2 * i + 2 := by omega
 unfold dnJG
 split
 ·rename_i h1
  rcases hk' with rfl | rfl
  ·exact leG_of h1.2
  ·exact hself
 ·rename_i h1
  rcases hk' with rfl | rfl
  ·exact hself
  ·exact fun h2 => h1 ⟨hk, h2⟩
theorem dnG_hp {α : Type} [HOrd α] [HLaw α] (f : Nat) : ∀ (n : Nat) (l : List α) (i : Nat), n - i ≤ f → n ≤ l.length → dnGI n l i → hpG n (dnG f n l i) := by
 induction f with
 | zero => intro n l i hf hn ⟨h1, _⟩ k a b; exact h1 k a b (by omega)
 | succ f ih =>
  intro n l i hf hn ⟨h1, h2⟩
  simp only [dnG]
  split
  ·rename_i h0; intro k a b; exact h1 k a b (by omega)
  ·rename_i h0
   have hJ := dnJG_lt (l := l) h0
   have hJp : (dnJG n l i - 1) / 2 = i := by unfold dnJG; split <;> omega
   have hch := fun k a b e => dnJG_le (n := n) (l := l) (i := i) k a b e
   generalize dnJG n l i = j at *
   split
   ·rename_i hlt
    have sw := swapG_at l (i := i) (j := j) (by omega) (by omega)
    have hle := leG_of hlt
    refine ih n (swapG l i j) j (by omega) (by rw [swapG_len]; exact hn) ⟨fun k a b c => ?_, fun k a b d e => ?_⟩
    ·rw [sw, sw]
     by_cases e1 : k = j
     ·subst e1
      rw [if_neg (by omega), if_pos hJp, if_pos rfl]; exact hle
     ·rw [if_neg e1, if_neg c]
      by_cases e2 : k = i
      ·subst e2
       rw [if_neg (by omega), if_pos rfl]
       exact h2 j (by omega) hJ.1 hJp a
      ·rw [if_neg e2]
       by_cases e3 : (k - 1) / 2 = i
       ·rw [if_pos e3]; exact hch k a b e3
       ·rw [if_neg e3]; exact h1 k a b e3
    ·rw [sw, sw, if_neg (by omega), if_pos hJp, if_neg (by omega), if_neg (by omega)]
     exact d ▸ h1 k a b (by omega)
   ·rename_i hlt
    intro k a b
    by_cases e3 : (k - 1) / 2 = i
    ·rw [e3]; exact leG_trans hlt (hch k a b e3)
    ·exact h1 k a b e3
theorem dnG_perm {α : Type} [HOrd α] (f : Nat) : ∀ (n : Nat) (l : List α) (i : Nat), i < l.length → n ≤ l.length → (dnG f n l i).Perm l := by
 induction f with
 | zero => intro n l i _ _; exact .refl _
 | succ f ih =>
  intro n l i hi hn
  simp only [dnG]
  split
  ·exact .refl _
  ·rename_i h0
   have hJ := dnJG_lt (l := l) h0
   split
   ·exact (ih _ _ _ (by rw [swapG_len]; omega) (by rw [swapG_len]; exact hn)).trans (swapG_perm hi (by omega))
   ·exact .refl _
theorem dnG_at {α : Type} [HOrd α] (f : Nat) : ∀ (n : Nat) (l : List α) (i m : Nat), n ≤ m → i < n → n ≤ l.length → atG (dnG f n l i) m = atG l m := by
 induction f with
 | zero => intro n l i m _ _ _; rfl
 | succ f ih =>
  intro n l i m hm hi hn
  simp only [dnG]
  split
  ·rfl
  ·rename_i h0
   have hJ := dnJG_lt (l := l) h0
   split
   ·rw [ih _ _ _ _ hm hJ.1 (by rw [swapG_len]; exact hn), swapG_at l (by omega) (by omega), if_neg (by omega), if_neg (by omega)]
   ·rfl
theorem hpG_root {α : Type} [HOrd α] [HLaw α] {n : Nat} {l : List α} (h : hpG n l) (k : Nat) : k < n → leG (atG l 0) (atG l k) := by
 induction k using Nat.strongRecOn with
 | ind k ih =>
  intro hk
  rcases Nat.eq_zero_or_pos k with rfl | h0
  ·exact fun h => HLaw.asym _ _ h h
  ·exact leG_trans (ih _ (by omega) (by omega)) (h k h0 hk)
theorem push_hpG {α : Type} [HOrd α] [HLaw α] {l : List α} {x : α} (h : hpG l.length l) : hpG (l.length + 1) (upG (l.length + 1) (l ++ [x]) l.length) := by
 have := upG_hp (l.length + 1) (l ++ [x]) l.length (by omega) (by simp) ⟨fun i a b c => ?_, fun c a b d e => ?_⟩
 ·simpa using this
 ·simp only [List.length_append, List.length_cons, List.length_nil] at b
  have := h i a (by omega)
  simp only [atG, List.getD_eq_getElem?_getD] at this ⊢
  rwa [List.getElem?_append_left (by omega), List.getElem?_append_left (by omega)]
 ·simp only [List.length_append, List.length_cons, List.length_nil] at b; omega
theorem pop_hpG {α : Type} [HOrd α] [HLaw α] {l : List α} {n : Nat} (hn : l.length = n + 1) (h : hpG (n + 1) l) :
  hpG n ((popG l).take n) ∧ ((popG l).getD n HOrd.d :: (popG l).take n).Perm l ∧ ∀ x ∈ (popG l).take n, leG ((popG l).getD n HOrd.d) x := by
 have hp : popG l = dnG n n (swapG l 0 n) 0 := by rw [popG, hn]; rfl
 have sw := swapG_at l (i := 0) (j := n) (by omega) (by omega)
 have hlen := popG_len l
 have hat : (popG l).getD n HOrd.d = atG l 0 := by
  rcases Nat.eq_zero_or_pos n with rfl | h0
  ·rw [hp]; show atG (swapG l 0 0) 0 = _; rw [sw]; simp
  ·rw [hp]; show atG (dnG n n (swapG l 0 n) 0) n = _
   rw [dnG_at n n _ 0 n (Nat.le_refl _) h0 (by rw [swapG_len]; omega), sw, if_pos rfl]
 have hperm : (popG l).Perm l := by rw [hp]; exact (dnG_perm _ _ _ _ (by rw [swapG_len]; omega) (by rw [swapG_len]; omega)).trans (swapG_perm (by omega) (by omega))
 have ep : popG l = (popG l).take n ++ [(popG l).getD n HOrd.d] := by
  have h := (List.take_append_drop n (popG l)).symm
  have h2 : (popG l).drop n = [(popG l).getD n HOrd.d] := by
   rw [List.getD_eq_getElem?_getD, List.getElem?_eq_getElem (by omega), Option.getD_some, List.drop_eq_getElem_cons (by omega), List.drop_of_length_le (by omega)]
  rwa [h2] at h
 have hperm2 : ((popG l).getD n HOrd.d :: (popG l).take n).Perm l := by
  refine (List.Perm.trans ?_ hperm)
  conv => rhs; rw [ep]
  exact (List.perm_append_singleton _ _).symm
 refine ⟨?_, hperm2, fun x hx => ?_⟩
 ·have := dnG_hp n n (swapG l 0 n) 0 (by omega) (by rw [swapG_len]; omega) ⟨fun k a b c => ?_, fun k a b d e => by omega⟩
  ·rw [← hp] at this
   intro i a b
   have := this i a b
   simp only [atG, List.getD_eq_getElem?_getD] at this ⊢
   rwa [List.getElem?_take, if_pos (by omega), List.getElem?_take, if_pos (by omega)]
  ·rw [sw, sw, if_neg (by omega), if_neg (by omega), if_neg (by omega), if_neg (by omega)]
   exact h k a (by omega)
 ·rw [hat]
  have hm := hperm.subset (List.mem_of_mem_take hx)
  obtain ⟨k, hk, rfl⟩ := List.mem_iff_getElem.1 hm
  have := hpG_root h k (by omega)
  simp only [atG, List.getD_eq_getElem?_getD, List.getElem?_eq_getElem hk, Option.getD_some] at this
  simp only [atG, List.getD_eq_getElem?_getD]
  exact this
end Go.Heap
namespace Go.Proofs.YtdmfcnjgdicncaaGreat
open Go.Eng Go.RowKit Go.WideMaps Go.Heap

abbrev ltE (a c : Ev) : Bool := lessL a.r a.n a.deps c.r c.n c.deps
instance : HOrd Wn := ⟨fun a c => ltE a.e c.e, ⟨0, ⟨0, 0, .slice none 0 0, [], 0, ⟨#[]⟩, ⟨#[]⟩, [], .slice none 0 0, []⟩, 0⟩⟩
theorem lt_Wn (a c : Wn) : HOrd.lt a c = ltE a.e c.e := rfl
instance : HLaw Wn where
 asym := fun x y h1 h2 => by
  rw [lt_Wn, ltE, lessL, decide_eq_true_eq] at h1 h2; omega
 trans := fun x y z h1 h2 h3 => by
  rw [lt_Wn, ltE, lessL, decide_eq_true_eq] at h1 h2 h3; omega
theorem wF_app (a c : List Wn) : wF (a ++ c) = wF a ++ wF c := by
 induction a with
 | nil => rfl
 | cons e a ih => simp only [List.cons_append, wF, ih, List.append_assoc]
theorem wF_at {l1 l2 : List Wn} {e : Wn} : (wF (l1 ++ e :: l2)).Perm (wP e ++ wF (l1 ++ l2)) := by
 rw [wF_app, wF, wF_app, ← List.append_assoc, ← List.append_assoc]
 exact List.perm_append_comm.append_right _
section
variable {b : World} {F : List SP} {k : Nat} {H : List Wn} {e : Wn}
theorem wF_sat (hk : nth F k = some (all (wF H))) (he : e ∈ H) : ∀ w, Sat b F w → ∃ G, Sat b (wP e ++ G) w := fun w hS => by
 obtain ⟨l1, l2, rfl⟩ := List.append_of_mem he
 obtain ⟨h1, l, hA⟩ := hS.mem.get hk
 exact ⟨wF (l1 ++ l2), hS.os, hS.tape, hS.output, (ent_perm wF_at _ hA).mono l⟩
theorem wF_blk (hk : nth F k = some (all (wF H))) (he : e ∈ H) : ∀ w, Sat b F w → Blk w e.g t_api_Waiting (waC e) := fun w hS => by
 obtain ⟨G, h⟩ := wF_sat hk he w hS
 exact h.blk (k := 0) rfl
theorem wF_dv (hk : nth F k = some (all (wF H))) (he : e ∈ H) : ∀ w, Sat b F w → VL (Value.int .i64) w e.e.dv e.e.deps := fun w hS => by
 obtain ⟨G, h⟩ := wF_sat hk he w hS
 exact vlZ (k := 1) rfl w h
theorem wF_rv (hk : nth F k = some (all (wF H))) (he : e ∈ H) : ∀ w, Sat b F w → SL w 32 e.e.rv e.e.refs.length (idsC e.e.refs) := fun w hS => by
 obtain ⟨G, h⟩ := wF_sat hk he w hS
 exact (h.oat (k := 2) rfl).sl
end
section
variable {b : World} {F : List SP}
theorem evLess_S {e f : Ev} (he : ∀ w, Sat b F w → VL (Value.int .i64) w e.dv e.deps) (hf : ∀ w, Sat b F w → VL (Value.int .i64) w f.dv f.deps) :
  SC Tryz.prog n_event_Less [evV e, evV f] b F (fun v F' => v = .bool (ltE e f) ∧ F' = F) := by
 refine enterS F_event_Less rfl rfl rfl ?_
 (refine sw_seq (sw_region ?_))
 refine so_box rfl rfl rfl rfl rfl fun g2 => ?_
 skip
 refine so_box rfl rfl rfl rfl rfl fun g3 => ?_
 (refine so_1 rfl ?_; refine so_nil (sn_then ?_); refine sw_seq (sw_region ?_); refine so_1 rfl ?_; refine so_l 1 rfl rfl rfl ?_; refine so_1 rfl ?_; refine so_l 1 rfl rfl rfl ?_; refine so_1 rfl ?_; refine so_l 0 rfl rfl rfl ?_; refine so_1 rfl ?_; refine so_l 0 rfl rfl rfl ?_)
 refine so_callE rfl rfl rfl (SC.ofExt fun w H => Less_spec (up he (ent_keep 2 [] rfl rfl) w H) (up hf (ent_keep 2 [] rfl rfl) w H)) ?_
 (refine so_1 rfl ?_; refine so_nil (sn_then ?_); refine sw_ret ?_)
 refine sn_ret rfl (.tmp rfl .nil) (ent_keep 2 [] rfl rfl) ?_
 exact ⟨rfl, rfl⟩
variable {A : Option Addr} {c n : Nat} {R H : List Wn}
theorem wLen_S : SC Tryz.prog n_hold_waiting_Len [.slice A n c] b F (fun v F' => v = .int .i64 n ∧ F' = F) := by
 refine enterS F_hold_waiting_Len rfl rfl rfl ?_
 (refine sw_seq (sw_region ?_); refine so_1 rfl ?_; refine so_nil (sn_then ?_); refine sw_seq (sw_region ?_); (iterate 3 refine so_1 rfl ?_); refine so_nil (sn_then ?_); refine sw_ret ?_)
 refine sn_ret rfl (.tmp rfl .nil) (Ent.refl _) ?_
 exact ⟨rfl, rfl⟩
abbrev rW (A : Option Addr) (c n : Nat) (R : List Wn) : SP := row t_p_api_Waiting 1 (.slice A n c) n (ptrs R)
theorem wF_ev {k : Nat} {e : Wn} (hk : nth F k = some (all (wF H))) (he : e ∈ H) : ∀ w, Sat b F w → ∀ j, j < (evC e.e).length → w.cell? ⟨e.g, j, none⟩ = (evC e.e)[j]? := fun w hS j hj => by
 rw [(wF_blk hk he w hS).cell j]; exact List.getElem?_append_left hj
theorem wLess_S {i j : Nat} (hn : R.length = n) (hs : ∀ e ∈ R, e ∈ H) (h32 : ∀ e ∈ H, e.e.id.length = 32) (hi : i < n) (hj : j < n) :
  SC Tryz.prog n_hold_waiting_Less [.slice A n c, .int .i64 i, .int .i64 j] b (rW A c n R :: all (wF H) :: F) (fun v F' => v = .bool (HOrd.lt (R.getD i HOrd.d) (R.getD j HOrd.d)) ∧ F' = rW A c n R :: all (wF H) :: F) := by
 have hi' : i < R.length := by omega
 have hj' : j < R.length := by omega
 have ei : R.getD i HOrd.d = R[i] := by rw [List.getD_eq_getElem?_getD, List.getElem?_eq_getElem hi']; rfl
 have ej : R.getD j HOrd.d = R[j] := by rw [List.getD_eq_getElem?_getD, List.getElem?_eq_getElem hj']; rfl
 have mi := hs _ (List.getElem_mem hi')
 have mj := hs _ (List.getElem_mem hj')
 have ci : (ptrs R)[i]? = some (.pointer (some ⟨R[i].g, 0, none⟩)) := by simp [ptrs, hi']
 have cj : (ptrs R)[j]? = some (.pointer (some ⟨R[j].g, 0, none⟩)) := by simp [ptrs, hj']
 rw [ei, ej]
 generalize R[i] = x at *
 generalize R[j] = y at *
 refine enterS F_hold_waiting_Less rfl rfl rfl ?_
 refine sw_fact (fun w H => (H.oat (k := 0) rfl).form) ?_
 rintro ⟨A', c', hv, k1, k2, k3⟩
 cases hv
 obtain ⟨gg, oo, rfl⟩ := k3 (by omega)
 have hl1 := h32 x mi
 have hl2 := h32 y mj
 (refine sw_seq (sw_region ?_); refine so_1 rfl ?_; refine so_nil (sn_then ?_); refine sw_seq ?_)
 refine sw_draw flo (rW (some ⟨gg, oo, none⟩) c n R :: all (wF H) :: F) (by decide +kernel) (Ent.refl _) ?_
 ((iterate 2 refine sd_1 rfl (.inl rfl) ?_); refine sd_2 rfl rfl (by omega) ?_)
 refine sd_rd rfl (fun w H => ex_load rfl rfl rfl (by rw [mulz_eq, Int.toNat_natCast, Nat.mul_one]; exact row_cell (k := 0) rfl ci w H)) rfl rfl ?_
 ((iterate 2 refine sd_1 rfl (.inl rfl) ?_))
 refine sd_rd rfl (fun w H => ex_loadN (cs := evC x.e) rfl rfl rfl (evC_len hl1) (fun q hq => by rw [Nat.zero_add]; exact wF_ev (k := 1) rfl mi w H q hq)) rfl rfl ?_
 ((iterate 2 refine sd_1 rfl (.inl rfl) ?_); refine sd_2 rfl rfl (by omega) ?_)
 refine sd_rd rfl (fun w H => ex_load rfl rfl rfl (by rw [mulz_eq, Int.toNat_natCast, Nat.mul_one]; exact row_cell (k := 0) rfl cj w H)) rfl rfl ?_
 ((iterate 2 refine sd_1 rfl (.inl rfl) ?_))
 refine sd_rd rfl (fun w H => ex_loadN (cs := evC y.e) rfl rfl rfl (evC_len hl2) (fun q hq => by rw [Nat.zero_add]; exact wF_ev (k := 1) rfl mj w H q hq)) rfl rfl ?_
 skip
 refine sd_callE rfl rfl rfl rfl (evLess_S (wF_dv (k := 1) rfl mi) (wF_dv (k := 1) rfl mj)) (Ent.refl _) ?_
 (refine sd_1 rfl (.inl rfl) ?_)
 refine sd_nil ?_
 (refine sn_then ?_; refine sw_ret ?_)
 refine sn_ret rfl (.tmp rfl .nil) (Ent.refl _) ?_
 exact ⟨rfl, rfl⟩
end

theorem spl_ptrs {R : List Wn} {i : Nat} {x : Wn} (h : i < R.length) : spl (ptrs R) i [.pointer (some ⟨x.g, 0, none⟩)] = ptrs (R.set i x) := by
 simp only [spl, ptrs, List.map_set, List.length_cons, List.length_nil, List.cons_append, List.nil_append, Nat.zero_add]
 rw [List.set_eq_take_append_cons_drop, if_pos (by simpa using h)]
section
variable {b : World} {F : List SP} {A : Option Addr} {c n : Nat} {R H : List Wn}
set_option maxHeartbeats 2000000 in
theorem wSwap_S {i j : Nat} (hn : R.length = n) (hi : i < n) (hj : j < n) :
  SC Tryz.prog n_hold_waiting_Swap [.slice A n c, .int .i64 i, .int .i64 j] b (rW A c n R :: F) (fun _ F' => F' = rW A c n (swapG R i j) :: F) := by
 have hi' : i < R.length := by omega
 have hj' : j < R.length := by omega
 have ei : R.getD i HOrd.d = R[i] := by rw [List.getD_eq_getElem?_getD, List.getElem?_eq_getElem hi']; rfl
 have ej : R.getD j HOrd.d = R[j] := by rw [List.getD_eq_getElem?_getD, List.getElem?_eq_getElem hj']; rfl
 have ci : (ptrs R)[i]? = some (.pointer (some ⟨R[i].g, 0, none⟩)) := by simp [ptrs, hi']
 have cj : (ptrs R)[j]? = some (.pointer (some ⟨R[j].g, 0, none⟩)) := by simp [ptrs, hj']
 rw [swapG, ei, ej]
 generalize R[i] = x at *
 generalize R[j] = y at *
 have s1 := spl_ptrs (x := y) hi'
 have s2 := spl_ptrs (R := R.set i y) (x := x) (i := j) (by simpa using hj')
 refine enterS F_hold_waiting_Swap rfl rfl rfl ?_
 refine sw_fact (fun w H => (H.oat (k := 0) rfl).form) ?_
 rintro ⟨A', c', hv, k1, k2, k3⟩
 cases hv
 obtain ⟨gg, oo, rfl⟩ := k3 (by omega)
 refine sw_freeC 13 [2, 3] (fl := flo) [] [(0, .slice (some ⟨gg, oo, none⟩) n c), (1, .int .i64 i), (2, .int .i64 j)] ⟨rfl, rfl, rfl, trivial⟩ rfl (by kernel_rfl) (by kernel_rfl) (by decide) ?_
 ((iterate 6 refine fc_p (fun _ => rfl) ?_); refine fc_c (fun _ => rfl) (by omega) ?_)
 refine fc_ex rfl (fun vs w H => ex_load rfl rfl rfl (by rw [mulz_eq, Int.toNat_natCast, Nat.mul_one]; exact row_cell (k := 0) rfl cj w H)) ?_
 ((iterate 2 refine fc_p (fun _ => rfl) ?_); refine fc_c (fun _ => rfl) (by omega) ?_)
 refine fc_ex rfl (fun vs w H => ex_load rfl rfl rfl (by rw [mulz_eq, Int.toNat_natCast, Nat.mul_one]; exact row_cell (k := 0) rfl ci w H)) ?_
 (refine fc_c (fun _ => rfl) (by omega) ?_)
 refine .done rfl fun gg => ⟨ent_nil _, ?_⟩
 refine sd_strow 0 i rfl rfl rfl rfl rfl rfl rfl rfl rfl s1 rfl (by rw [mulz_eq, Int.toNat_natCast, Nat.mul_one]) (by simp; omega) (fun u hu => by simp at hu; subst hu; rfl) (ent_nil _) ?_
 (refine sd_2 rfl rfl (by omega) ?_)
 refine sd_strow 0 j rfl rfl rfl rfl rfl rfl rfl rfl rfl s2 rfl (by rw [mulz_eq, Int.toNat_natCast, Nat.mul_one]) (by simp; omega) (fun u hu => by simp at hu; subst hu; rfl) (ent_nil _) ?_
 refine sd_nil ?_
 refine sn_end rfl .nil (ent_keep 0 [] rfl rfl) ?_
 exact rfl
end

structure HC (cs : Value → List Value) (off : Nat) : Prop where
 rd : ∀ v, nth (cs v) off = some v
 wr : ∀ u v, stO (cs u) off v = some (cs v)
section
variable {b : World} {F : List SP} {A : Option Addr} {c n gh t0 off : Nat} {R : List Wn} {cs : Value → List Value} {x : Wn}
set_option maxHeartbeats 1000000 in
theorem wPush_S (hc : HC cs off) (hR : R.length = n) (hn : n ≤ 1000000) :
  SC Tryz.prog n_p_hold_waiting_Push [.pointer (some ⟨gh, off, none⟩), .iface t_p_api_Waiting (.pointer (some ⟨x.g, 0, none⟩))] b (pt gh t0 (cs (.slice A n c)) :: rW A c n R :: F)
   (fun _ F' => ∃ A' c', F' = pt gh t0 (cs (.slice A' (n + 1) c')) :: rW A' c' (n + 1) (R ++ [x]) :: F) := by
 refine enterS F_p_hold_waiting_Push rfl rfl rfl ?_
 refine sw_draw2 flo 9 (pt gh t0 (cs (.slice A n c)) :: F) [] rfl (by decide +kernel) (ent_keep 2 [0] rfl rfl) ?_
 ((iterate 3 refine sd_1 rfl (.inl rfl) ?_))
 refine sd_ld 0 rfl rfl rfl rfl rfl rfl (hc.rd _) rfl rfl ?_
 (refine sd_1 rfl (.inl rfl) ?_)
 refine sd_as rfl rfl rfl rfl rfl rfl rfl ?_
 refine sd_lit [.pointer (some ⟨x.g, 0, none⟩)] rfl rfl rfl rfl rfl rfl rfl rfl rfl rfl (ent_keep 2 [0] rfl rfl) fun gl => ?_
 refine sd_append 2 rfl rfl rfl rfl rfl rfl rfl rfl rfl rfl (m := 1) (news := [.pointer (some ⟨x.g, 0, none⟩)]) (fun w H => (H.blk (k := 0) rfl).sl rfl (by decide)) (fun u hu => by simp at hu; subst hu; rfl) (by omega) (fun _ => rfl) (fun _ => ent_keep 3 [1] rfl rfl) fun v8 => ?_
 have e : ptrs R ++ [.pointer (some ⟨x.g, 0, none⟩)] = ptrs (R ++ [x]) := by simp [ptrs]
 rw [e]
 refine sd_fact (fun w H => (H.oat (k := 2) rfl).form) ?_
 rintro ⟨A7, c7, rfl, _, _, _⟩
 (refine sd_1 rfl (.inl rfl) ?_)
 refine sd_nil (sn_draw2 rfl (ent_nil _) ?_)
 skip
 refine sd_st 1 rfl rfl rfl rfl rfl rfl rfl rfl rfl (hc.wr _ _) rfl (ent_nil _) ?_
 refine sd_nil ?_
 refine sn_end rfl .nil (ent_keep 3 [1, 2] rfl rfl) ?_
 exact ⟨A7, c7, rfl⟩
set_option maxHeartbeats 1000000 in
theorem wPop_S (hc : HC cs off) (hR : R.length = n) (hn : n ≤ 1000000) :
  SC Tryz.prog n_p_hold_waiting_Pop [.pointer (some ⟨gh, off, none⟩)] b (pt gh t0 (cs (.slice A (n + 1) c)) :: rW A c (n + 1) (R ++ [x]) :: F)
   (fun v F' => v = .iface t_p_api_Waiting (.pointer (some ⟨x.g, 0, none⟩)) ∧ F' = pt gh t0 (cs (.slice A n c)) :: rW A c n R :: F) := by
 have hN : (((n + 1 : Nat) : Int) - 1) = (n : Int) := by omega
 have cx : (ptrs (R ++ [x]))[n]? = some (.pointer (some ⟨x.g, 0, none⟩)) := by simp [ptrs, ← hR]
 refine enterS F_p_hold_waiting_Pop rfl rfl rfl ?_
 refine sw_fact (fun w H => (H.oat (k := 1) rfl).form) ?_
 rintro ⟨A', c', hv, k1, k2, k3⟩
 cases hv
 obtain ⟨gg, oo, rfl⟩ := k3 (by omega)
 (refine sw_seq (sw_region ?_); refine so_1 rfl ?_; refine so_nil (sn_then ?_); refine sw_seq (sw_region ?_); (iterate 2 refine so_1 rfl ?_))
 refine so_ld 0 rfl rfl rfl rfl rfl rfl (hc.rd _) rfl ?_
 (refine so_1 rfl ?_; refine so_2 rfl (by (unfold I64; omega)) ?_; refine so_1 rfl ?_; refine so_nil (sn_then ?_); refine sw_seq (sw_region ?_); (iterate 2 refine so_1 rfl ?_))
 refine so_know 3 (.int .i64 n) rfl (by first | rfl | (rw [hN]; rfl) | (simp [hN]; done)) ?_
 skip
 refine so_ld 0 rfl rfl rfl rfl rfl rfl (hc.rd _) rfl ?_
 (refine so_1 rfl ?_; refine so_2 rfl (by omega) ?_)
 refine so_rd rfl (fun w H => ex_load rfl rfl rfl (by rw [mulz_eq, Int.toNat_natCast, Nat.mul_one]; exact row_cell (k := 1) rfl cx w H)) rfl ?_
 (refine so_1 rfl ?_; refine so_nil (sn_then ?_); refine sw_seq (sw_region ?_); (iterate 3 refine so_1 rfl ?_))
 refine so_ld 0 rfl rfl rfl rfl rfl rfl (hc.rd _) rfl ?_
 (refine so_1 rfl ?_; refine so_2 rfl (by omega) ?_; refine so_1 rfl ?_)
 refine so_know 21 (.slice (some ⟨gg, oo, none⟩) n c) rfl (by first | rfl | (simp; done)) ?_
 skip
 refine so_st 0 rfl rfl rfl rfl rfl rfl rfl rfl (hc.wr _ _) rfl ?_
 (refine so_nil (sn_then ?_); refine sw_seq (sw_region ?_); (iterate 3 refine so_1 rfl ?_); refine so_nil (sn_then ?_); refine sw_ret ?_)
 refine sn_ret rfl (.tmp rfl .nil) ((ent_row_take (j := n) (by omega) 1 rfl rfl).trans (ent_keep 2 [0, 1] rfl rfl)) ?_
 have e : (ptrs (R ++ [x])).take (n * 1) = ptrs R := by rw [Nat.mul_one, ptrs, List.map_append, List.take_append_of_le_length (by simp [hR]), List.take_of_length_le (by simp [hR])]
 exact ⟨rfl, by rw [e]⟩
end

instance : MethP Tryz.prog t_p_hold_waiting "Push" n_p_hold_waiting_Push := ⟨by kernel_rfl, inferInstance⟩
instance : MethP Tryz.prog t_p_hold_waiting "Pop" n_p_hold_waiting_Pop := ⟨by kernel_rfl, inferInstance⟩
instance : MethV Tryz.prog t_p_hold_waiting "Len" n_hold_waiting_Len := ⟨by kernel_rfl, inferInstance⟩
instance : MethV Tryz.prog t_p_hold_waiting "Less" n_hold_waiting_Less := ⟨by kernel_rfl, inferInstance⟩
instance : MethV Tryz.prog t_p_hold_waiting "Swap" n_hold_waiting_Swap := ⟨by kernel_rfl, inferInstance⟩
theorem sub_swap {m H : List Wn} (h : ∀ e ∈ m, e ∈ H) {i j : Nat} (hi : i < m.length) (hj : j < m.length) : ∀ e ∈ swapG m i j, e ∈ H := fun e he => h e ((swapG_perm hi hj).subset he)
section
variable {b : World} {F : List SP} {A : Option Addr} {c n gh t0 off : Nat} {l H : List Wn} {cs : Value → List Value}
set_option maxHeartbeats 1000000 in
theorem upW_S {j : Nat} (hc : HC cs off) (h32 : ∀ e ∈ H, e.e.id.length = 32) (hl : ∀ e ∈ l, e ∈ H) (hn : l.length = n) (hj : j < n) (hm : n ≤ 1000000) :
  SC Tryz.prog n_container_heap_up [.iface t_p_hold_waiting (.pointer (some ⟨gh, off, none⟩)), .int .i64 j] b (pt gh t0 (cs (.slice A n c)) :: rW A c n l :: all (wF H) :: F)
   (fun _ F' => F' = pt gh t0 (cs (.slice A n c)) :: rW A c n (upG (j + 1) l j) :: all (wF H) :: F) := by
 refine enterS F_container_heap_up rfl rfl rfl ?_
 (refine sw_block ?_)
 refine sw_loop (S := List Wn × Nat) (fun s => [(0, .iface t_p_hold_waiting (.pointer (some ⟨gh, off, none⟩))), (1, .int .i64 s.2)]) (fun s => pt gh t0 (cs (.slice A n c)) :: rW A c n s.1 :: all (wF H) :: F)
  (fun s => (∀ e ∈ s.1, e ∈ H) ∧ s.1.length = n ∧ s.2 < n ∧ upG (s.2 + 1) s.1 s.2 = upG (j + 1) l j) (fun s => s.2) (l, j) ⟨rfl, rfl, trivial⟩ (Ent.refl _) ⟨hl, hn, hj, rfl⟩ ?_
 rintro ⟨m, i⟩ ⟨i1, i2, i3, i4⟩
 dsimp only at i1 i2 i3 i4 ⊢
 (refine sw_block ?_; refine sw_seq (sw_region ?_); refine so_1 rfl ?_; refine so_2 rfl (by (unfold I64; omega)) ?_; refine so_2 rfl (by omega) ?_; refine so_1 rfl ?_; refine so_nil (sn_then ?_); (iterate 2 refine sw_seq ?_); refine sw_region ?_; (iterate 4 refine so_1 rfl ?_))
 refine so_know 4 (.int .i64 (((i - 1) / 2 : Nat) : Int)) rfl (congrArg (Value.int .i64) (tdiv2w (by omega))) ?_
 by_cases h0 : i = 0
 ·refine so_know 11 (.bool true) rfl (by rw [tdiv2w (by omega)]; simp [h0]) ?_
  ((iterate 6 refine so_1 rfl ?_); refine so_nil (sn_then ?_); refine sw_cond_t rfl ?_; refine sw_exit ?_; refine sn_then_exit ?_; refine sn_block_other rfl ?_; refine sn_loop_exit ?_; refine sn_block_exit ?_)
  subst h0
  have e : m = upG (j + 1) l j := by rw [← i4]; simp [upG]
  refine sn_end rfl .nil (ent_keep 0 [] rfl rfl) ?_
  rw [e]
 ·refine so_know 11 (.bool false) rfl (by rw [tdiv2w (by omega)]; simp; omega) ?_
  ((iterate 3 refine so_1 rfl ?_))
  have hp : (i - 1) / 2 < m.length := by omega
  subst i2
  have hless := wLess_S (b := b) (F := pt gh t0 (cs (.slice A m.length c)) :: F) (A := A) (c := c) (n := m.length) (R := m) (H := H) (i := i) (j := (i - 1) / 2) rfl i1 h32 (by omega) hp
  refine so_invVE 0 rfl rfl rfl rfl rfl rfl (hc.rd _) rfl (hless.at (ent_keep 3 [1, 2, 0] rfl rfl) (ent_keep 3 [2, 0, 1] rfl rfl)) ?_
  by_cases h1 : HOrd.lt (m.getD i HOrd.d) (m.getD ((i - 1) / 2) HOrd.d) = true
  ·refine so_know 15 (.bool true) rfl (congrArg Value.bool h1) ?_
   ((iterate 2 refine so_1 rfl ?_); refine so_nil (sn_then ?_); refine sw_cond_f rfl ?_; refine sw_skip ?_; refine sn_then ?_; refine sw_seq (sw_region ?_); (iterate 3 refine so_1 rfl ?_))
   have hswap := wSwap_S (b := b) (F := all (wF H) :: pt gh t0 (cs (.slice A m.length c)) :: F) (A := A) (c := c) (n := m.length) (R := m) (i := (i - 1) / 2) (j := i) rfl hp i3
   refine so_invV 0 rfl rfl rfl rfl rfl rfl (hc.rd _) rfl (hswap.ent (ent_keep 3 [1, 2, 0] rfl rfl)) ?_
   rintro _ _ rfl
   (refine so_nil (sn_then ?_); refine sw_region ?_; (iterate 2 refine so_1 rfl ?_); refine so_nil ?_; refine sn_block ?_)
   refine sn_round (swapG m ((i - 1) / 2) i, (i - 1) / 2) ⟨rfl, rfl, trivial⟩ (ent_keep 3 [2, 0, 1] rfl rfl) ⟨sub_swap i1 hp i3, swapG_len _ _ _, hp, ?_⟩ (by dsimp only; omega)
   rw [← i4]
   simp only [upG, if_neg h0, if_pos h1]
   exact (upG_fuel i _ _ (by omega)).symm
  ·refine so_know 15 (.bool false) rfl (congrArg Value.bool (by simpa using h1)) ?_
   ((iterate 2 refine so_1 rfl ?_); refine so_nil (sn_then ?_); refine sw_cond_t rfl ?_; refine sw_exit ?_; refine sn_then_exit ?_; refine sn_block_other rfl ?_; refine sn_loop_exit ?_; refine sn_block_exit ?_)
   have e : m = upG (j + 1) l j := by rw [← i4]; simp only [upG, if_neg h0, if_neg h1]
   refine sn_end rfl .nil (ent_keep 0 [] rfl rfl) ?_
   rw [← e]
end

def mvG (n : Nat) (l : List Wn) (i : Nat) : Bool := !decide (n ≤ 2 * i + 1) && HOrd.lt (l.getD (dnJG n l i) HOrd.d) (l.getD i HOrd.d)
section
variable {b : World} {F : List SP} {A : Option Addr} {c n gh t0 off : Nat} {l H : List Wn} {cs : Value → List Value}
set_option maxHeartbeats 1000000 in
theorem dnW_S {n0 i0 : Nat} (hc : HC cs off) (h32 : ∀ e ∈ H, e.e.id.length = 32) (hl : ∀ e ∈ l, e ∈ H) (hn : l.length = n) (h0 : n0 ≤ n) (hi0 : i0 ≤ n) (hm : n ≤ 1000000) :
  SC Tryz.prog n_container_heap_down [.iface t_p_hold_waiting (.pointer (some ⟨gh, off, none⟩)), .int .i64 i0, .int .i64 n0] b (pt gh t0 (cs (.slice A n c)) :: rW A c n l :: all (wF H) :: F)
   (fun v F' => v = .bool (mvG n0 l i0) ∧ F' = pt gh t0 (cs (.slice A n c)) :: rW A c n (dnG (n0 - i0) n0 l i0) :: all (wF H) :: F) := by
 refine enterS F_container_heap_down rfl rfl rfl ?_
 (refine sw_seq (sw_region ?_); refine so_1 rfl ?_; refine so_nil (sn_then ?_); refine sw_seq (sw_region ?_); (iterate 2 refine so_1 rfl ?_); refine so_nil (sn_then ?_); refine sw_seq ?_; refine sw_block ?_)
 refine sw_loop (S := List Wn × Nat) (fun s => [(0, .iface t_p_hold_waiting (.pointer (some ⟨gh, off, none⟩))), (1, .int .i64 i0), (2, .int .i64 n0), (7, .int .i64 s.2)]) (fun s => pt gh t0 (cs (.slice A n c)) :: rW A c n s.1 :: all (wF H) :: F)
  (fun s => (∀ e ∈ s.1, e ∈ H) ∧ s.1.length = n ∧ (s.2 = i0 ∨ s.2 < n0) ∧ dnG (n0 - s.2) n0 s.1 s.2 = dnG (n0 - i0) n0 l i0 ∧ ((s.2 = i0 ∧ s.1 = l) ∨ (i0 < s.2 ∧ mvG n0 l i0 = true))) (fun s => n0 - s.2) (l, i0) ⟨rfl, rfl, rfl, rfl, trivial⟩ (Ent.refl _) ⟨hl, hn, .inl rfl, rfl, .inl ⟨rfl, rfl⟩⟩ ?_
 rintro ⟨m, i⟩ ⟨i1, i2, i3, i4, i5⟩
 dsimp only at i1 i2 i3 i4 i5 ⊢
 (refine sw_block ?_; refine sw_seq (sw_region ?_); refine so_1 rfl ?_; (iterate 2 refine so_2 rfl (by (unfold I64; omega)) ?_); refine so_1 rfl ?_; refine so_nil (sn_then ?_); (iterate 2 refine sw_seq ?_); refine sw_region ?_; (iterate 4 refine so_1 rfl ?_))
 by_cases c1 : n0 ≤ 2 * i + 1
 ·refine so_know 18 (.bool true) rfl (by simp; omega) ?_
  ((iterate 3 refine so_1 rfl ?_); refine so_nil (sn_then ?_); refine sw_cond_t rfl ?_; refine sw_exit ?_; refine sn_then_exit ?_; refine sn_block_other rfl ?_; refine sn_loop_exit ?_; refine sn_block_exit ?_; refine sn_then ?_; refine sw_seq (sw_region ?_); (iterate 4 refine so_1 rfl ?_); refine so_nil (sn_then ?_); refine sw_ret ?_)
  have e : m = dnG (n0 - i0) n0 l i0 := by
   rw [← i4]
   cases hk : n0 - i with
   | zero => rfl
   | succ k => simp only [dnG]; rw [if_pos c1]
  refine sn_ret rfl (.tmp rfl .nil) (ent_keep 0 [] rfl rfl) ?_
  refine ⟨congrArg Value.bool ?_, by rw [e]⟩
  rcases i5 with ⟨rfl, rfl⟩ | ⟨h1, h2⟩
  ·simp [mvG, c1]
  ·rw [h2]; simpa using h1
 ·refine so_know 18 (.bool false) rfl (by simp; omega) ?_
  ((iterate 3 refine so_1 rfl ?_); refine so_nil (sn_then ?_); refine sw_cond_f rfl ?_; refine sw_skip ?_; refine sn_then ?_; refine sw_seq (sw_region ?_); (iterate 2 refine so_1 rfl ?_); refine so_nil (sn_then ?_); (iterate 2 refine sw_seq ?_); refine sw_region ?_; refine so_1 rfl ?_; refine so_2 rfl (by (unfold I64; omega)) ?_; refine so_1 rfl ?_; refine so_nil (sn_then ?_); refine sw_seq (sw_region ?_); (iterate 4 refine so_1 rfl ?_))
  refine so_know 21 (.bool false) rfl (by simp; omega) ?_
  skip
  obtain ⟨k, hk⟩ : ∃ k, n0 - i = k + 1 := ⟨n0 - i - 1, by omega⟩
  have hJ := dnJG_lt (l := m) c1
  obtain ⟨j, hj⟩ : ∃ j, j = dnJG n0 m i := ⟨_, rfl⟩
  rw [← hj] at hJ
  by_cases c2 : 2 * i + 2 < n0
  ·refine so_know 28 (.bool true) rfl (by simp; omega) ?_
   ((iterate 3 refine so_1 rfl ?_))
   subst i2
   have hless := wLess_S (b := b) (F := pt gh t0 (cs (.slice A m.length c)) :: F) (A := A) (c := c) (n := m.length) (R := m) (H := H) (i := 2 * i + 2) (j := 2 * i + 1) rfl i1 h32 (by omega) (by omega)
   refine so_know 30 (.int .i64 (2 * i + 2 : Nat)) rfl (by first | rfl | (congr 1; omega)) ?_
   refine so_know 31 (.int .i64 (2 * i + 1 : Nat)) rfl (by first | rfl | (congr 1; omega)) ?_
   refine so_invVE 0 rfl rfl rfl rfl rfl rfl (hc.rd _) rfl (hless.at (ent_keep 3 [1, 2, 0] rfl rfl) (ent_keep 3 [2, 0, 1] rfl rfl)) ?_
   by_cases c3 : HOrd.lt (m.getD (2 * i + 2) HOrd.d) (m.getD (2 * i + 1) HOrd.d) = true
   ·refine so_know 32 (.bool true) rfl (congrArg Value.bool c3) ?_
    have e : j = 2 * i + 2 := by rw [hj, dnJG, if_pos ⟨c2, c3⟩]
    (refine so_1 rfl ?_; refine so_nil (sn_then ?_); refine sw_cond_t rfl ?_; refine sw_region ?_; (iterate 2 refine so_1 rfl ?_); refine so_nil (sn_then ?_); (iterate 2 refine sw_seq ?_); refine sw_region ?_; (iterate 3 refine so_1 rfl ?_))
    refine so_know 36 (.int .i64 j) rfl (by congr 1; omega) ?_
    refine so_know 9 (.int .i64 j) rfl (by congr 1; omega) ?_
    have hless2 := wLess_S (b := b) (F := pt gh t0 (cs (.slice A m.length c)) :: F) (A := A) (c := c) (n := m.length) (R := m) (H := H) (i := j) (j := i) rfl i1 h32 (by omega) (by omega)
    refine so_invVE 0 rfl rfl rfl rfl rfl rfl (hc.rd _) rfl (hless2.at (ent_keep 3 [1, 2, 0] rfl rfl) (ent_keep 3 [2, 0, 1] rfl rfl)) ?_
    by_cases c4 : HOrd.lt (m.getD j HOrd.d) (m.getD i HOrd.d) = true
    ·refine so_know 38 (.bool true) rfl (congrArg Value.bool c4) ?_
     (refine so_1 rfl ?_; refine so_nil (sn_then ?_); refine sw_cond_f rfl ?_; refine sw_skip ?_; refine sn_then ?_; refine sw_seq (sw_region ?_); (iterate 3 refine so_1 rfl ?_))
     have hswap := wSwap_S (b := b) (F := all (wF H) :: pt gh t0 (cs (.slice A m.length c)) :: F) (A := A) (c := c) (n := m.length) (R := m) (i := i) (j := j) rfl (by omega) (by omega)
     refine so_invV 0 rfl rfl rfl rfl rfl rfl (hc.rd _) rfl (hswap.ent (ent_keep 3 [1, 2, 0] rfl rfl)) ?_
     rintro _ _ rfl
     (refine so_nil (sn_then ?_); refine sw_region ?_; (iterate 2 refine so_1 rfl ?_); refine so_nil ?_; refine sn_block ?_)
     refine sn_round (swapG m i j, j) ⟨rfl, rfl, rfl, rfl, trivial⟩ (ent_keep 3 [2, 0, 1] rfl rfl) ⟨sub_swap i1 (by omega) (by omega), swapG_len _ _ _, .inr hJ.1, ?_, .inr ⟨by dsimp only; rcases i5 with ⟨h, _⟩ | ⟨h, _⟩ <;> omega, ?_⟩⟩ (by dsimp only; omega)
     ·rw [← i4, hk]
      simp only [dnG, ← hj, if_neg c1, if_pos c4]
      exact (dnG_fuel k _ _ _ (by omega)).symm
     ·rcases i5 with ⟨rfl, rfl⟩ | ⟨h1, h2⟩
      ·rw [hj] at c4; rw [mvG, c4, Bool.and_true]; simp; omega
      ·exact h2
    ·refine so_know 38 (.bool false) rfl (congrArg Value.bool (by simpa using c4)) ?_
     (refine so_1 rfl ?_; refine so_nil (sn_then ?_); refine sw_cond_t rfl ?_; refine sw_exit ?_; refine sn_then_exit ?_; refine sn_block_other rfl ?_; refine sn_loop_exit ?_; refine sn_block_exit ?_; refine sn_then ?_; refine sw_seq (sw_region ?_); (iterate 4 refine so_1 rfl ?_); refine so_nil (sn_then ?_); refine sw_ret ?_)
     have e9 : m = dnG (n0 - i0) n0 l i0 := by rw [← i4, hk]; simp only [dnG, ← hj, if_neg c1, if_neg c4]
     refine sn_ret rfl (.tmp rfl .nil) (ent_keep 0 [] rfl rfl) ?_
     refine ⟨congrArg Value.bool ?_, by rw [← e9]⟩
     rcases i5 with ⟨rfl, rfl⟩ | ⟨h1, h2⟩
     ·rw [hj] at c4; rw [mvG, Bool.eq_false_iff.2 c4, Bool.and_false]; simp
     ·rw [h2]; simpa using h1
   ·refine so_know 32 (.bool false) rfl (congrArg Value.bool (by simpa using c3)) ?_
    have e : j = 2 * i + 1 := by rw [hj, dnJG, if_neg (fun h => c3 h.2)]
    (refine so_1 rfl ?_; refine so_nil (sn_then ?_); refine sw_cond_f rfl ?_; refine sw_skip ?_; refine sn_then ?_; (iterate 2 refine sw_seq ?_); refine sw_region ?_; (iterate 3 refine so_1 rfl ?_))
    refine so_know 36 (.int .i64 j) rfl (by congr 1; omega) ?_
    refine so_know 9 (.int .i64 j) rfl (by congr 1; omega) ?_
    have hless2 := wLess_S (b := b) (F := pt gh t0 (cs (.slice A m.length c)) :: F) (A := A) (c := c) (n := m.length) (R := m) (H := H) (i := j) (j := i) rfl i1 h32 (by omega) (by omega)
    refine so_invVE 0 rfl rfl rfl rfl rfl rfl (hc.rd _) rfl (hless2.at (ent_keep 3 [1, 2, 0] rfl rfl) (ent_keep 3 [2, 0, 1] rfl rfl)) ?_
    by_cases c4 : HOrd.lt (m.getD j HOrd.d) (m.getD i HOrd.d) = true
    ·refine so_know 38 (.bool true) rfl (congrArg Value.bool c4) ?_
     (refine so_1 rfl ?_; refine so_nil (sn_then ?_); refine sw_cond_f rfl ?_; refine sw_skip ?_; refine sn_then ?_; refine sw_seq (sw_region ?_); (iterate 3 refine so_1 rfl ?_))
     have hswap := wSwap_S (b := b) (F := all (wF H) :: pt gh t0 (cs (.slice A m.length c)) :: F) (A := A) (c := c) (n := m.length) (R := m) (i := i) (j := j) rfl (by omega) (by omega)
     refine so_invV 0 rfl rfl rfl rfl rfl rfl (hc.rd _) rfl (hswap.ent (ent_keep 3 [1, 2, 0] rfl rfl)) ?_
     rintro _ _ rfl
     (refine so_nil (sn_then ?_); refine sw_region ?_; (iterate 2 refine so_1 rfl ?_); refine so_nil ?_; refine sn_block ?_)
     refine sn_round (swapG m i j, j) ⟨rfl, rfl, rfl, rfl, trivial⟩ (ent_keep 3 [2, 0, 1] rfl rfl) ⟨sub_swap i1 (by omega) (by omega), swapG_len _ _ _, .inr hJ.1, ?_, .inr ⟨by dsimp only; rcases i5 with ⟨h, _⟩ | ⟨h, _⟩ <;> omega, ?_⟩⟩ (by dsimp only; omega)
     ·rw [← i4, hk]
      simp only [dnG, ← hj, if_neg c1, if_pos c4]
      exact (dnG_fuel k _ _ _ (by omega)).symm
     ·rcases i5 with ⟨rfl, rfl⟩ | ⟨h1, h2⟩
      ·rw [hj] at c4; rw [mvG, c4, Bool.and_true]; simp; omega
      ·exact h2
    ·refine so_know 38 (.bool false) rfl (congrArg Value.bool (by simpa using c4)) ?_
     (refine so_1 rfl ?_; refine so_nil (sn_then ?_); refine sw_cond_t rfl ?_; refine sw_exit ?_; refine sn_then_exit ?_; refine sn_block_other rfl ?_; refine sn_loop_exit ?_; refine sn_block_exit ?_; refine sn_then ?_; refine sw_seq (sw_region ?_); (iterate 4 refine so_1 rfl ?_); refine so_nil (sn_then ?_); refine sw_ret ?_)
     have e9 : m = dnG (n0 - i0) n0 l i0 := by rw [← i4, hk]; simp only [dnG, ← hj, if_neg c1, if_neg c4]
     refine sn_ret rfl (.tmp rfl .nil) (ent_keep 0 [] rfl rfl) ?_
     refine ⟨congrArg Value.bool ?_, by rw [← e9]⟩
     rcases i5 with ⟨rfl, rfl⟩ | ⟨h1, h2⟩
     ·rw [hj] at c4; rw [mvG, Bool.eq_false_iff.2 c4, Bool.and_false]; simp
     ·rw [h2]; simpa using h1
  ·refine so_know 28 (.bool false) rfl (by simp; omega) ?_
   ((iterate 5 refine so_1 rfl ?_); refine so_nil (sn_then ?_); refine sw_cond_f rfl ?_; refine sw_skip ?_; refine sn_then ?_; (iterate 2 refine sw_seq ?_); refine sw_region ?_; (iterate 3 refine so_1 rfl ?_))
   have e : j = 2 * i + 1 := by rw [hj, dnJG, if_neg (fun h => c2 h.1)]
   subst i2
   refine so_know 36 (.int .i64 j) rfl (by congr 1; omega) ?_
   refine so_know 9 (.int .i64 j) rfl (by congr 1; omega) ?_
   have hless2 := wLess_S (b := b) (F := pt gh t0 (cs (.slice A m.length c)) :: F) (A := A) (c := c) (n := m.length) (R := m) (H := H) (i := j) (j := i) rfl i1 h32 (by omega) (by omega)
   refine so_invVE 0 rfl rfl rfl rfl rfl rfl (hc.rd _) rfl (hless2.at (ent_keep 3 [1, 2, 0] rfl rfl) (ent_keep 3 [2, 0, 1] rfl rfl)) ?_
   by_cases c4 : HOrd.lt (m.getD j HOrd.d) (m.getD i HOrd.d) = true
   ·refine so_know 38 (.bool true) rfl (congrArg Value.bool c4) ?_
    (refine so_1 rfl ?_; refine so_nil (sn_then ?_); refine sw_cond_f rfl ?_; refine sw_skip ?_; refine sn_then ?_; refine sw_seq (sw_region ?_); (iterate 3 refine so_1 rfl ?_))
    have hswap := wSwap_S (b := b) (F := all (wF H) :: pt gh t0 (cs (.slice A m.length c)) :: F) (A := A) (c := c) (n := m.length) (R := m) (i := i) (j := j) rfl (by omega) (by omega)
    refine so_invV 0 rfl rfl rfl rfl rfl rfl (hc.rd _) rfl (hswap.ent (ent_keep 3 [1, 2, 0] rfl rfl)) ?_
    rintro _ _ rfl
    (refine so_nil (sn_then ?_); refine sw_region ?_; (iterate 2 refine so_1 rfl ?_); refine so_nil ?_; refine sn_block ?_)
    refine sn_round (swapG m i j, j) ⟨rfl, rfl, rfl, rfl, trivial⟩ (ent_keep 3 [2, 0, 1] rfl rfl) ⟨sub_swap i1 (by omega) (by omega), swapG_len _ _ _, .inr hJ.1, ?_, .inr ⟨by dsimp only; rcases i5 with ⟨h, _⟩ | ⟨h, _⟩ <;> omega, ?_⟩⟩ (by dsimp only; omega)
    ·rw [← i4, hk]
     simp only [dnG, ← hj, if_neg c1, if_pos c4]
     exact (dnG_fuel k _ _ _ (by omega)).symm
    ·rcases i5 with ⟨rfl, rfl⟩ | ⟨h1, h2⟩
     ·rw [hj] at c4; rw [mvG, c4, Bool.and_true]; simp; omega
     ·exact h2
   ·refine so_know 38 (.bool false) rfl (congrArg Value.bool (by simpa using c4)) ?_
    (refine so_1 rfl ?_; refine so_nil (sn_then ?_); refine sw_cond_t rfl ?_; refine sw_exit ?_; refine sn_then_exit ?_; refine sn_block_other rfl ?_; refine sn_loop_exit ?_; refine sn_block_exit ?_; refine sn_then ?_; refine sw_seq (sw_region ?_); (iterate 4 refine so_1 rfl ?_); refine so_nil (sn_then ?_); refine sw_ret ?_)
    have e9 : m = dnG (n0 - i0) n0 l i0 := by rw [← i4, hk]; simp only [dnG, ← hj, if_neg c1, if_neg c4]
    refine sn_ret rfl (.tmp rfl .nil) (ent_keep 0 [] rfl rfl) ?_
    refine ⟨congrArg Value.bool ?_, by rw [← e9]⟩
    rcases i5 with ⟨rfl, rfl⟩ | ⟨h1, h2⟩
    ·rw [hj] at c4; rw [mvG, Bool.eq_false_iff.2 c4, Bool.and_false]; simp
    ·rw [h2]; simpa using h1
end

section
variable {b : World} {F : List SP} {A : Option Addr} {c n gh t0 off : Nat} {l H : List Wn} {cs : Value → List Value} {x : Wn}
set_option maxHeartbeats 1000000 in
theorem hPushW_S (hc : HC cs off) (h32 : ∀ e ∈ H, e.e.id.length = 32) (hl : ∀ e ∈ l, e ∈ H) (hx : x ∈ H) (hn : l.length = n) (hm : n ≤ 900000) :
  SC Tryz.prog n_container_heap_Push [.iface t_p_hold_waiting (.pointer (some ⟨gh, off, none⟩)), .iface t_p_api_Waiting (.pointer (some ⟨x.g, 0, none⟩))] b (pt gh t0 (cs (.slice A n c)) :: rW A c n l :: all (wF H) :: F)
   (fun _ F' => ∃ A' c', F' = pt gh t0 (cs (.slice A' (n + 1) c')) :: rW A' c' (n + 1) (upG (n + 1) (l ++ [x]) n) :: all (wF H) :: F) := by
 refine enterS F_container_heap_Push rfl rfl rfl ?_
 (refine sw_seq (sw_region ?_); (iterate 2 refine so_1 rfl ?_))
 refine so_invP rfl rfl rfl (wPush_S hc hn (by omega)) ?_
 rintro _ _ ⟨A', c', rfl⟩
 (refine so_nil (sn_then ?_); refine sw_region ?_; (iterate 2 refine so_1 rfl ?_))
 refine so_invVE 0 rfl rfl rfl rfl rfl rfl (hc.rd _) rfl wLen_S ?_
 (refine so_2 rfl (by (unfold I64; omega)) ?_)
 refine so_know 10 (.int .i64 n) rfl (by congr 1; omega) ?_
 have hl' : ∀ e ∈ l ++ [x], e ∈ H := fun a ha => by
  rcases List.mem_append.1 ha with h | h
  ·exact hl a h
  ·simp at h; subst h; exact hx
 refine so_call rfl rfl rfl (upW_S (n := n + 1) (l := l ++ [x]) (j := n) hc h32 hl' (by simp; omega) (by omega) (by omega)) ?_
 rintro _ _ rfl
 (refine so_nil ?_)
 refine sn_end rfl .nil (ent_keep 0 [] rfl rfl) ?_
 exact ⟨A', c', rfl⟩
theorem last_split {m : List Wn} (hn : m.length = n + 1) : m = m.take n ++ [m.getD n HOrd.d] := by
 have h := (List.take_append_drop n m).symm
 have h2 : m.drop n = [m.getD n HOrd.d] := by
  rw [List.getD_eq_getElem?_getD, List.getElem?_eq_getElem (by omega), Option.getD_some, List.drop_eq_getElem_cons (by omega), List.drop_of_length_le (by omega)]
 rwa [h2] at h
set_option maxHeartbeats 1000000 in
theorem hPopW_S (hc : HC cs off) (h32 : ∀ e ∈ H, e.e.id.length = 32) (hl : ∀ e ∈ l, e ∈ H) (hn : l.length = n + 1) (hm : n ≤ 900000) :
  SC Tryz.prog n_container_heap_Pop [.iface t_p_hold_waiting (.pointer (some ⟨gh, off, none⟩))] b (pt gh t0 (cs (.slice A (n + 1) c)) :: rW A c (n + 1) l :: all (wF H) :: F)
   (fun v F' => v = .iface t_p_api_Waiting (.pointer (some ⟨((popG l).getD n HOrd.d).g, 0, none⟩)) ∧ F' = pt gh t0 (cs (.slice A n c)) :: rW A c n ((popG l).take n) :: all (wF H) :: F) := by
 have p1 := popG_len l
 have ep := last_split (m := popG l) (p1.trans hn)
 have hL : ((popG l).take n).length = n := by rw [List.length_take]; omega
 have hp : popG l = dnG n n (swapG l 0 n) 0 := by rw [popG, hn]; rfl
 refine enterS F_container_heap_Pop rfl rfl rfl ?_
 (refine sw_seq (sw_region ?_); refine so_1 rfl ?_; refine so_nil (sn_then ?_); refine sw_seq (sw_region ?_); refine so_1 rfl ?_)
 refine so_invVE 0 rfl rfl rfl rfl rfl rfl (hc.rd _) rfl wLen_S ?_
 (refine so_2 rfl (by (unfold I64; omega)) ?_; refine so_1 rfl ?_; refine so_nil (sn_then ?_); refine sw_seq (sw_region ?_); (iterate 2 refine so_1 rfl ?_))
 refine so_know 6 (.int .i64 n) rfl (by congr 1; omega) ?_
 refine so_know 8 (.int .i64 n) rfl (by congr 1; omega) ?_
 refine so_know 3 (.int .i64 n) rfl (by congr 1; omega) ?_
 have hswap := wSwap_S (b := b) (F := all (wF H) :: pt gh t0 (cs (.slice A (n + 1) c)) :: F) (A := A) (c := c) (n := n + 1) (R := l) (i := 0) (j := n) hn (by omega) (by omega)
 refine so_invV 0 rfl rfl rfl rfl rfl rfl (hc.rd _) rfl (hswap.ent (ent_keep 3 [1, 2, 0] rfl rfl)) ?_
 rintro _ _ rfl
 (refine so_nil (sn_then ?_); refine sw_seq (sw_region ?_); (iterate 2 refine so_1 rfl ?_))
 have hd := dnW_S (b := b) (F := F) (A := A) (c := c) (n := n + 1) (gh := gh) (t0 := t0) (l := swapG l 0 n) (n0 := n) (i0 := 0) hc h32 (sub_swap hl (by omega) (by omega)) (by rw [swapG_len]; exact hn) (by omega) (by omega) (by omega)
 rw [Nat.sub_zero, ← hp] at hd
 refine so_call rfl rfl rfl (hd.ent (ent_keep 3 [2, 0, 1] rfl rfl)) ?_
 rintro _ _ ⟨rfl, rfl⟩
 rw [ep]
 (refine so_nil (sn_then ?_); refine sw_seq (sw_region ?_); refine so_1 rfl ?_)
 refine so_invP rfl rfl rfl (wPop_S hc hL (by omega)) ?_
 rintro _ _ ⟨rfl, rfl⟩
 (refine so_1 rfl ?_; refine so_nil (sn_then ?_); refine sw_ret ?_)
 refine sn_ret rfl (.tmp rfl .nil) (ent_keep 0 [] rfl rfl) ?_
 exact ⟨by rw [← ep]; rfl, by rw [← ep]⟩
def remG (l : List Wn) (i n : Nat) : List Wn := if i = n then l else if mvG n (swapG l i n) i then dnG (n - i) n (swapG l i n) i else upG (i + 1) (dnG (n - i) n (swapG l i n) i) i
theorem remG_len (l : List Wn) (i n : Nat) : (remG l i n).length = l.length := by
 unfold remG; split; rfl; split; rw [dnG_len, swapG_len]; rw [upG_len, dnG_len, swapG_len]
set_option maxHeartbeats 1000000 in
theorem hRemove_S {i : Nat} (hc : HC cs off) (h32 : ∀ e ∈ H, e.e.id.length = 32) (hl : ∀ e ∈ l, e ∈ H) (hn : l.length = n + 1) (hi : i ≤ n) (hm : n ≤ 900000) :
  SC Tryz.prog n_container_heap_Remove [.iface t_p_hold_waiting (.pointer (some ⟨gh, off, none⟩)), .int .i64 i] b (pt gh t0 (cs (.slice A (n + 1) c)) :: rW A c (n + 1) l :: all (wF H) :: F)
   (fun v F' => v = .iface t_p_api_Waiting (.pointer (some ⟨((remG l i n).getD n HOrd.d).g, 0, none⟩)) ∧ F' = pt gh t0 (cs (.slice A n c)) :: rW A c n ((remG l i n).take n) :: all (wF H) :: F) := by
 have p1 := remG_len l i n
 have ep := last_split (m := remG l i n) (p1.trans hn)
 have hL : ((remG l i n).take n).length = n := by rw [List.length_take]; omega
 have fin : ∀ {F}, SC Tryz.prog n_p_hold_waiting_Pop [.pointer (some ⟨gh, off, none⟩)] b (pt gh t0 (cs (.slice A (n + 1) c)) :: rW A c (n + 1) (remG l i n) :: F)
   (fun v F' => v = .iface t_p_api_Waiting (.pointer (some ⟨((remG l i n).getD n HOrd.d).g, 0, none⟩)) ∧ F' = pt gh t0 (cs (.slice A n c)) :: rW A c n ((remG l i n).take n) :: F) := fun {F} => by
  have := wPop_S (b := b) (F := F) (A := A) (c := c) (gh := gh) (t0 := t0) (x := (remG l i n).getD n HOrd.d) (R := (remG l i n).take n) hc hL (by omega)
  rwa [← ep] at this
 refine enterS F_container_heap_Remove rfl rfl rfl ?_
 (refine sw_seq (sw_region ?_); refine so_1 rfl ?_; refine so_nil (sn_then ?_); refine sw_seq (sw_region ?_); refine so_1 rfl ?_)
 refine so_invVE 0 rfl rfl rfl rfl rfl rfl (hc.rd _) rfl wLen_S ?_
 (refine so_2 rfl (by (unfold I64; omega)) ?_; refine so_1 rfl ?_; refine so_nil (sn_then ?_); (iterate 2 refine sw_seq ?_); refine sw_region ?_; (iterate 3 refine so_1 rfl ?_); refine so_nil (sn_then ?_))
 refine sw_know 5 (.int .i64 n) rfl (by congr 1; omega) ?_
 by_cases e : i = n
 ·refine sw_know 11 (.bool false) rfl (by simp; omega) ?_
  (refine sw_cond_f rfl ?_; refine sw_skip ?_; refine sn_then ?_; refine sw_seq (sw_region ?_); refine so_1 rfl ?_)
  have er : remG l i n = l := by rw [remG, if_pos e]
  rw [er] at fin ⊢
  refine so_invP rfl rfl rfl fin ?_
  rintro _ _ ⟨rfl, rfl⟩
  (refine so_1 rfl ?_; refine so_nil (sn_then ?_); refine sw_ret ?_)
  refine sn_ret rfl (.tmp rfl .nil) (ent_keep 0 [] rfl rfl) ?_
  exact ⟨rfl, rfl⟩
 ·refine sw_know 11 (.bool true) rfl (by simp; omega) ?_
  (refine sw_cond_t rfl ?_; refine sw_seq (sw_region ?_); (iterate 3 refine so_1 rfl ?_))
  have hswap := wSwap_S (b := b) (F := all (wF H) :: pt gh t0 (cs (.slice A (n + 1) c)) :: F) (A := A) (c := c) (n := n + 1) (R := l) (i := i) (j := n) hn (by omega) (by omega)
  refine so_invV 0 rfl rfl rfl rfl rfl rfl (hc.rd _) rfl (hswap.ent (ent_keep 3 [1, 2, 0] rfl rfl)) ?_
  rintro _ _ rfl
  (refine so_nil (sn_then ?_); refine sw_seq (sw_region ?_); (iterate 3 refine so_1 rfl ?_))
  have hsub := sub_swap hl (i := i) (j := n) (by omega) (by omega)
  have hlen : (swapG l i n).length = n + 1 := by rw [swapG_len]; exact hn
  have hd := dnW_S (b := b) (F := F) (A := A) (c := c) (n := n + 1) (gh := gh) (t0 := t0) (l := swapG l i n) (n0 := n) (i0 := i) hc h32 hsub hlen (by omega) (by omega) (by omega)
  refine so_call rfl rfl rfl (hd.ent (ent_keep 3 [2, 0, 1] rfl rfl)) ?_
  rintro _ _ ⟨rfl, rfl⟩
  cases q : mvG n (swapG l i n) i with
  | true =>
   have er : remG l i n = dnG (n - i) n (swapG l i n) i := by rw [remG, if_neg e, if_pos q]
   rw [er] at fin ⊢
   (refine so_1 rfl ?_; refine so_nil (sn_then ?_); refine sw_cond_f rfl ?_; refine sw_skip ?_; refine sn_then ?_; refine sw_seq (sw_region ?_); refine so_1 rfl ?_)
   refine so_invP rfl rfl rfl fin ?_
   rintro _ _ ⟨rfl, rfl⟩
   (refine so_1 rfl ?_; refine so_nil (sn_then ?_); refine sw_ret ?_)
   refine sn_ret rfl (.tmp rfl .nil) (ent_keep 0 [] rfl rfl) ?_
   exact ⟨rfl, rfl⟩
  | false =>
   have er : remG l i n = upG (i + 1) (dnG (n - i) n (swapG l i n) i) i := by rw [remG, if_neg e, if_neg (by rw [q]; decide)]
   have hu := upW_S (b := b) (F := F) (A := A) (c := c) (n := n + 1) (gh := gh) (t0 := t0) (l := dnG (n - i) n (swapG l i n) i) (j := i) hc h32 (fun a ha => hsub a ((dnG_perm _ _ _ _ (by omega) (by omega)).subset ha)) (by rw [dnG_len]; exact hlen) (by omega) (by omega)
   rw [← er] at hu
   (refine so_1 rfl ?_; refine so_nil (sn_then ?_); refine sw_cond_t rfl ?_; refine sw_region ?_; (iterate 2 refine so_1 rfl ?_))
   refine so_call rfl rfl rfl (hu) ?_
   rintro _ _ rfl
   (refine so_nil (sn_then ?_); refine sw_seq (sw_region ?_); refine so_1 rfl ?_)
   refine so_invP rfl rfl rfl fin ?_
   rintro _ _ ⟨rfl, rfl⟩
   (refine so_1 rfl ?_; refine so_nil (sn_then ?_); refine sw_ret ?_)
   refine sn_ret rfl (.tmp rfl .nil) (ent_keep 0 [] rfl rfl) ?_
   exact ⟨rfl, rfl⟩
end

theorem upG_at (k : Nat) : ∀ (l : List Wn) (j m : Nat), j < m → j < l.length → m < l.length → atG (upG k l j) m = atG l m := by
 induction k with
 | zero => intro l j m _ _ _; rfl
 | succ k ih =>
  intro l j m hm hj hml
  simp only [upG]
  split
  ·rfl
  ·split
   ·rw [ih _ _ _ (by omega) (by rw [swapG_len]; omega) (by rw [swapG_len]; omega), swapG_at l (by omega) hj, if_neg (by omega), if_neg (by omega)]
   ·rfl
theorem getD_take {l : List Wn} {n i : Nat} (h : i < n) : (l.take n).getD i HOrd.d = l.getD i HOrd.d := by
 simp only [List.getD_eq_getElem?_getD, List.getElem?_take, if_pos h]
theorem swapG_take {l : List Wn} {n i j : Nat} (hi : i < n) (hj : j < n) : (swapG l i j).take n = swapG (l.take n) i j := by
 unfold swapG
 rw [getD_take hi, getD_take hj, List.take_set, List.take_set]
theorem upG_take (k : Nat) : ∀ (l : List Wn) (j n : Nat), j < n → (upG k l j).take n = upG k (l.take n) j := by
 induction k with
 | zero => intro l j n _; rfl
 | succ k ih =>
  intro l j n hj
  simp only [upG]
  rw [getD_take hj, getD_take (show (j - 1) / 2 < n by omega)]
  split
  ·rfl
  ·split
   ·rw [ih _ _ _ (by omega), swapG_take (by omega) hj]
   ·rfl
theorem dnG_stay {n i : Nat} {l : List Wn} (k : Nat) (h : mvG n l i = false) : dnG k n l i = l := by
 cases k with
 | zero => rfl
 | succ k =>
  simp only [dnG]
  split
  ·rfl
  ·rename_i h1
   split
   ·rename_i h2
    rw [mvG, h2, Bool.and_true] at h
    simp at h; omega
   ·rfl
theorem hpG_take {n : Nat} {l : List Wn} : hpG n (l.take n) ↔ hpG n l := by
 constructor
 ·intro h i a c
  have := h i a c
  rwa [atG, atG, getD_take c, getD_take (show (i - 1) / 2 < n by omega)] at this
 ·intro h i a c
  have := h i a c
  rwa [atG, atG, getD_take c, getD_take (show (i - 1) / 2 < n by omega)]
theorem remG_hp {l : List Wn} {n i : Nat} (hn : l.length = n + 1) (hi : i ≤ n) (h : hpG (n + 1) l) : hpG n (remG l i n) := by
 by_cases e : i = n
 ·rw [remG, if_pos e]; intro k a c; exact h k a (by omega)
 have hin : i < n := by omega
 have sw := swapG_at l (i := i) (j := n) (by omega) (by omega)
 have hlen : (swapG l i n).length = n + 1 := by rw [swapG_len]; exact hn
 rw [remG, if_neg e]
 have hch : ∀ k, 0 < k → k < n → (k - 1) / 2 = i → leG (atG l i) (atG l k) := fun k a c d => by have := h k a (by omega); rwa [d] at this
 by_cases hA : i = 0 ∨ leG (atG l ((i - 1) / 2)) (atG l n)
 ·have hd : hpG n (dnG (n - i) n (swapG l i n) i) := by
   refine dnG_hp (n - i) n (swapG l i n) i (by omega) (by omega) ⟨fun k a c d => ?_, fun k a c d f => ?_⟩
   ·rw [sw, sw, if_neg (by omega), if_neg d, if_neg (by omega)]
    by_cases e1 : k = i
    ·rw [if_pos e1]
     rcases hA with h0 | h0
     ·omega
     ·rw [e1]; exact h0
    ·rw [if_neg e1]; exact h k a (by omega)
   ·rw [sw, sw, if_neg (by omega), if_neg (by omega), if_neg (by omega), if_neg (by omega)]
    exact leG_trans (h i f (by omega)) (hch k a c d)
  split
  ·exact hd
  ·rename_i hq
   have hs := dnG_stay (n := n) (i := i) (l := swapG l i n) (n - i) (by simpa using hq)
   rw [hs] at hd ⊢
   have : upG (i + 1) (swapG l i n) i = swapG l i n := by
    simp only [upG]
    split
    ·rfl
    ·rename_i h0
     split
     ·rename_i h1
      exact absurd h1 (hd i (by omega) hin)
     ·rfl
   rw [this]; exact hd
 ·have h0 : ¬ i = 0 := fun h => hA (.inl h)
  have hlt : leG (atG l n) (atG l ((i - 1) / 2)) := by
   have : HOrd.lt (atG l n) (atG l ((i - 1) / 2)) = true := Classical.byContradiction fun hc => hA (.inr hc)
   exact leG_of this
  have hpi := h i (by omega) (by omega)
  have hle : ∀ k, 0 < k → k < n → (k - 1) / 2 = i → leG (atG l n) (atG l k) := fun k a c d => leG_trans hlt (leG_trans hpi (hch k a c d))
  have hmv : mvG n (swapG l i n) i = false := by
   rw [Bool.eq_false_iff]
   intro hm
   simp only [mvG, Bool.and_eq_true, Bool.not_eq_true', decide_eq_false_iff_not] at hm
   obtain ⟨c1, c2⟩ := hm
   have hJ := dnJG_lt (l := swapG l i n) c1
   have hJp : (dnJG n (swapG l i n) i - 1) / 2 = i := by unfold dnJG; split <;> omega
   generalize dnJG n (swapG l i n) i = j at *
   have := hle j (by omega) hJ.1 hJp
   change HOrd.lt (atG (swapG l i n) j) (atG (swapG l i n) i) = true at c2
   rw [sw, sw, if_neg (by omega), if_neg (by omega), if_neg (by omega), if_pos rfl] at c2
   exact this c2
  rw [if_neg (by rw [hmv]; decide), dnG_stay _ hmv, ← hpG_take, upG_take _ _ _ _ hin]
  have htl : ((swapG l i n).take n).length = n := by rw [List.length_take, hlen]; omega
  have := upG_hp (i + 1) ((swapG l i n).take n) i (by omega) (by rw [htl]; exact hin) ⟨fun k a c d => ?_, fun k a c d f => ?_⟩
  ·rwa [htl] at this
  ·rw [htl] at c
   rw [atG, atG, getD_take c, getD_take (show (k - 1) / 2 < n by omega)]
   change leG (atG (swapG l i n) ((k - 1) / 2)) (atG (swapG l i n) k)
   by_cases e1 : (k - 1) / 2 = i
   ·rw [sw, sw, if_neg (by omega), if_pos e1, if_neg (by omega), if_neg d]; exact hle k a c e1
   ·rw [sw, sw, if_neg (by omega), if_neg e1, if_neg (by omega), if_neg d]; exact h k a (by omega)
  ·rw [htl] at c
   rw [atG, atG, getD_take c, getD_take (show (i - 1) / 2 < n by omega)]
   change leG (atG (swapG l i n) ((i - 1) / 2)) (atG (swapG l i n) k)
   rw [sw, sw, if_neg (by omega), if_neg (by omega), if_neg (by omega), if_neg (by omega)]
   exact leG_trans hpi (hch k a c d)
theorem remG_perm {l : List Wn} {n i : Nat} (hn : l.length = n + 1) (hi : i ≤ n) : (remG l i n).Perm l := by
 have hlen : (swapG l i n).length = n + 1 := by rw [swapG_len]; exact hn
 have h1 := swapG_perm (l := l) (i := i) (j := n) (by omega) (by omega)
 have h2 := (dnG_perm (n - i) n (swapG l i n) i (by omega) (by omega)).trans h1
 unfold remG
 split
 ·exact .refl _
 ·split
  ·exact h2
  ·exact (upG_perm _ _ _ (by rw [dnG_len]; omega)).trans h2
theorem remG_at {l : List Wn} {n i : Nat} (hn : l.length = n + 1) (hi : i ≤ n) : (remG l i n).getD n HOrd.d = l.getD i HOrd.d := by
 have sw := swapG_at l (i := i) (j := n) (by omega) (by omega)
 have hlen : (swapG l i n).length = n + 1 := by rw [swapG_len]; exact hn
 unfold remG
 split
 ·rename_i e; rw [e]
 ·have h1 : atG (dnG (n - i) n (swapG l i n) i) n = atG l i := by
   rw [dnG_at _ _ _ _ _ (Nat.le_refl _) (by omega) (by omega), sw, if_pos rfl]
  split
  ·exact h1
  ·change atG (upG (i + 1) _ i) n = _
   rw [upG_at _ _ _ _ (by omega) (by rw [dnG_len]; omega) (by rw [dnG_len]; omega)]
   exact h1

theorem hc1 : HC (fun v => [v]) 0 := ⟨fun _ => rfl, fun _ _ => rfl⟩
theorem hcq (q m : Value) : HC (fun v => [q, v, m]) 1 := ⟨fun _ => rfl, fun _ _ => rfl⟩
section
variable {b : World} {F : List SP} {R H : List Wn} {h : Value}
set_option maxHeartbeats 2000000 in
theorem drained_S (ha : ∀ w, Sat b (all (wF H) :: F) w → SL w 1 h R.length (ptrs R)) (h32 : ∀ e ∈ H, e.e.id.length = 32) (hs : ∀ e ∈ R, e ∈ H) (hp : hpG R.length R) (hn : R.length ≤ 100000) :
  SC Tryz.prog n_hold_waiting_drained [h] b (all (wF H) :: F) (fun v F' => ∃ O : List Wn, O.Perm R ∧ O.Pairwise leG ∧ F' = rP v O :: all (wF H) :: F) := by
 refine enterS F_hold_waiting_drained rfl rfl rfl ?_
 (refine sw_seq (sw_region ?_); refine so_1 rfl ?_; refine so_nil (sn_then ?_); refine sw_seq (sw_region ?_); refine so_1 rfl ?_)
 refine so_call rfl rfl rfl (Clone_ptrs ha (by omega)) ?_
 rintro v5 _ rfl
 refine so_fact (fun w H => (H.oat (k := 0) rfl).form) ?_
 rintro ⟨A0, c0, rfl, _, _, _⟩
 skip
 refine so_new rfl rfl rfl rfl rfl fun g3 => ?_
 (refine so_s1 0 rfl rfl rfl rfl ?_; refine so_nil (sn_then ?_); refine sw_seq ?_; refine sw_block ?_)
 refine sw_loop (S := List Wn × List Wn × Nat × Nat × Option Addr × Nat × Option Addr × Nat) (fun s => [(2, .slice s.2.2.2.2.2.2.1 s.2.2.2.1 s.2.2.2.2.2.2.2), (3, .pointer (some ⟨g3, 0, none⟩))])
  (fun s => pt g3 t_hold_waiting [.slice s.2.2.2.2.1 s.2.2.1 s.2.2.2.2.2.1] :: rW s.2.2.2.2.1 s.2.2.2.2.2.1 s.2.2.1 s.2.1 :: rW s.2.2.2.2.2.2.1 s.2.2.2.2.2.2.2 s.2.2.2.1 s.1 :: all (wF H) :: F)
  (fun s => s.2.1.length = s.2.2.1 ∧ s.1.length = s.2.2.2.1 ∧ (∀ e ∈ s.2.1, e ∈ H) ∧ hpG s.2.2.1 s.2.1 ∧ (s.1 ++ s.2.1).Perm R ∧ s.1.Pairwise leG ∧ ∀ x ∈ s.1, ∀ y ∈ s.2.1, leG x y) (fun s => s.2.2.1)
  ([], R, R.length, 0, A0, c0, none, 0) ⟨rfl, rfl, trivial⟩ ?_ ⟨rfl, rfl, hs, hp, .refl _, .nil, fun _ h => by simp at h⟩ ?_
 ·exact (ent_row_nil t_p_api_Waiting 1 rfl).trans (ent_keep 3 [1, 2, 0] rfl rfl)
 rintro ⟨O, m, n, o, A, c, OA, Oc⟩ ⟨i1, i2, i3, i4, i5, i6, i7⟩
 dsimp only at i1 i2 i3 i4 i5 i6 i7 ⊢
 have hle : n ≤ 100000 ∧ o ≤ 100000 := by have := i5.length_eq; simp at this; omega
 ((iterate 2 refine sw_seq ?_); refine sw_region ?_; refine so_l 0 rfl rfl rfl ?_)
 refine so_callE rfl rfl rfl (wLen_S) ?_
 (refine so_1 rfl ?_; refine so_nil (sn_then ?_))
 refine sw_if rfl (fun h0 => ?_) (fun h0 => ?_)
 ·obtain ⟨k, rfl⟩ : ∃ k, n = k + 1 := ⟨n - 1, by omega⟩
  obtain ⟨q1, q2, q3⟩ := pop_hpG i1 i4
  (refine sw_skip ?_; refine sn_then ?_; refine sw_block ?_; refine sw_region ?_; (iterate 2 refine so_1 rfl ?_))
  refine so_call rfl rfl rfl (hPopW_S (cs := fun v => [v]) hc1 h32 i3 i1 (by omega) |>.ent (ent_keep 4 [0, 1, 3, 2] rfl rfl)) ?_
  rintro _ _ ⟨rfl, rfl⟩
  have hl2 := popG_len m
  generalize (popG m).getD k HOrd.d = x at *
  have hl3 : ((popG m).take k).length = k := by rw [List.length_take]; omega
  generalize (popG m).take k = m3 at *
  skip
  refine so_as rfl rfl rfl rfl rfl rfl ?_
  refine so_lit [.pointer (some ⟨x.g, 0, none⟩)] rfl rfl rfl rfl rfl rfl rfl rfl rfl fun gl => ?_
  refine so_append 4 rfl rfl rfl rfl rfl rfl rfl rfl rfl (m := 1) (news := [.pointer (some ⟨x.g, 0, none⟩)]) (fun w H => (H.blk (k := 0) rfl).sl rfl (by decide)) (fun u hu => by simp at hu; subst hu; rfl) (by omega) (fun _ => rfl) fun v8 => ?_
  have e : ptrs O ++ [.pointer (some ⟨x.g, 0, none⟩)] = ptrs (O ++ [x]) := by simp [ptrs]
  rw [e]
  refine so_fact (fun w H => (H.oat (k := 4) rfl).form) ?_
  rintro ⟨A7, c7, rfl, _, _, _⟩
  (refine so_1 rfl ?_; refine so_nil ?_; refine sn_block ?_)
  refine sn_round (O ++ [x], m3, k, o + 1, A, c, A7, c7) ⟨rfl, rfl, trivial⟩ (ent_keep 5 [1, 2, 4, 3] rfl rfl) ⟨hl3, by simp; omega, fun e he => i3 e (q2.subset (List.mem_cons_of_mem _ he)), q1, ?_, ?_, ?_⟩ (by dsimp only; omega)
  ·dsimp only
   rw [List.append_assoc]
   exact (List.Perm.append_left O q2).trans i5
  ·refine List.pairwise_append.2 ⟨i6, by simp, fun a ha z hz => ?_⟩
   obtain rfl : z = x := by simpa using hz
   exact i7 a ha z (q2.subset List.mem_cons_self)
  ·intro a ha z hz
   rcases List.mem_append.1 ha with ha | ha
   ·exact i7 a ha z (q2.subset (List.mem_cons_of_mem _ hz))
   ·obtain rfl : a = x := by simpa using ha
    exact q3 z hz
 ·(refine sw_exit ?_; refine sn_then_exit ?_; refine sn_loop_exit ?_; refine sn_block_exit ?_; refine sn_then ?_; refine sw_seq (sw_region ?_); (iterate 2 refine so_1 rfl ?_); refine so_nil (sn_then ?_); refine sw_ret ?_)
  obtain rfl : m = [] := List.eq_nil_of_length_eq_zero (by omega)
  subst i2
  refine sn_ret rfl (.tmp rfl .nil) (ent_keep 3 [2] rfl rfl) ?_
  exact ⟨O, by simpa using i5, i6, rfl⟩
end

section
variable {b : World} {F : List SP} {gq gm : Nat} {v h : Value} {V : List Int} {R H : List Wn} {e : Wn}
theorem Vector_S (hV : V.length ≤ 1000000) : SC Tryz.prog n_p_hold_Queue_Vector [.pointer (some ⟨gq, 0, none⟩)] b (stH gq gm v V h R H F) (fun u F' => F' = rZ u V :: stH gq gm v V h R H F) := by
 refine enterS F_p_hold_Queue_Vector rfl rfl rfl ?_
 (refine sw_seq (sw_region ?_); refine so_1 rfl ?_; refine so_nil (sn_then ?_); (iterate 2 refine sw_seq ?_); refine sw_region ?_; refine so_1 rfl ?_)
 refine so_callE rfl rfl rfl (none_H) ?_
 (refine so_nil (sn_then ?_); refine sw_cond_f rfl ?_; refine sw_skip ?_; refine sn_then ?_; refine sw_seq (sw_region ?_); (iterate 3 refine so_1 rfl ?_); refine so_l 0 rfl rfl rfl ?_)
 refine so_call rfl rfl rfl (Clone_ints (vlZ (k := 1) rfl) hV) ?_
 rintro _ _ rfl
 (refine so_1 rfl ?_; refine so_nil (sn_then ?_); refine sw_ret ?_)
 refine sn_ret rfl (.tmp rfl .nil) (Ent.refl _) ?_
 rfl
theorem wF_cell {k i : Nat} {u : Value} (hk : nth F k = some (all (wF H))) (he : e ∈ H) (hu : nth (waC e) i = some u) : ∀ w, Sat b F w → w.cell? ⟨e.g, i, none⟩ = some u := fun w hS => by
 rw [(wF_blk hk he w hS).cell i, ← nth_eq]; exact hu
theorem ripe_S (he : e ∈ H) : SC Tryz.prog n_p_hold_Queue_ripe [.pointer (some ⟨gq, 0, none⟩), .pointer (some ⟨e.g, 0, none⟩)] b (stH gq gm v V h R H F) (fun u F' => u = .bool (leqL e.e.deps V) ∧ F' = stH gq gm v V h R H F) := by
 refine enterS F_p_hold_Queue_ripe rfl rfl rfl ?_
 (refine sw_seq (sw_region ?_); refine so_1 rfl ?_; refine so_nil (sn_then ?_); refine sw_seq ?_)
 refine sw_draw flo (stH gq gm v V h R H F) (by decide +kernel) (Ent.refl _) ?_
 ((iterate 4 refine sd_1 rfl (.inl rfl) ?_))
 refine sd_rd rfl (fun w H => ex_load rfl rfl rfl (wF_cell (k := 4) (i := 2) rfl he rfl w H)) rfl rfl ?_
 ((iterate 3 refine sd_1 rfl (.inl rfl) ?_); refine sd_l 0 rfl rfl rfl rfl ?_)
 refine sd_callE rfl rfl rfl rfl (SC.ofExt fun w H => Leq_spec (wF_dv (k := 4) rfl he w H) (vlZ (k := 1) rfl w H)) (Ent.refl _) ?_
 (refine sd_1 rfl (.inl rfl) ?_)
 refine sd_nil ?_
 (refine sn_then ?_; refine sw_ret ?_)
 refine sn_ret rfl (.tmp rfl .nil) (Ent.refl _) ?_
 exact ⟨rfl, rfl⟩
end

def dotsC : List (Int × Int) → List Value
 | [] => []
 | d :: l => .int .i64 d.1 :: .int .i64 d.2 :: dotsC l
theorem dotsC_app (l : List (Int × Int)) (r n : Int) : dotsC l ++ [.int .i64 r, .int .i64 n] = dotsC (l ++ [(r, n)]) := by
 induction l with
 | nil => rfl
 | cons d l ih => simp only [dotsC, List.cons_append, ih]
theorem dotsC_len (l : List (Int × Int)) : (dotsC l).length = l.length * 2 := by
 induction l with
 | nil => rfl
 | cons d l ih => simp only [dotsC, List.length_cons, ih]; omega
abbrev rO (A : Option Addr) (c n : Nat) (l : List (Int × Int)) : SP := row t_api_Dot 2 (.slice A n c) n (dotsC l)
def ripes (V : List Int) (O : List Wn) : List (Int × Int) := (O.filter fun w => leqL w.e.deps V).map fun w => (w.e.r, w.e.n)
theorem ripes_snoc (V : List Int) (O : List Wn) (w : Wn) : ripes V (O ++ [w]) = if leqL w.e.deps V then ripes V O ++ [(w.e.r, w.e.n)] else ripes V O := by
 unfold ripes
 rw [List.filter_append, List.map_append]
 by_cases h : leqL w.e.deps V = true
 ·rw [if_pos h]; simp [h]
 ·rw [if_neg h]; simp [h]
theorem ripes_le (V : List Int) (O : List Wn) : (ripes V O).length ≤ O.length := by
 unfold ripes; rw [List.length_map]; exact List.length_filter_le _ _
section
variable {b : World} {F : List SP} {gq gm : Nat} {v h : Value} {V : List Int} {R H : List Wn}
set_option maxHeartbeats 2000000 in
theorem Ripe_S (h32 : ∀ e ∈ H, e.e.id.length = 32) (hs : ∀ e ∈ R, e ∈ H) (hp : hpG R.length R) (hn : R.length ≤ 100000) :
  SC Tryz.prog n_p_hold_Queue_Ripe [.pointer (some ⟨gq, 0, none⟩)] b (stH gq gm v V h R H F) (fun u F' => ∃ O A c, O.Perm R ∧ O.Pairwise leG ∧ u = .slice A (ripes V O).length c ∧ F' = rO A c (ripes V O).length (ripes V O) :: stH gq gm v V h R H F) := by
 refine enterS F_p_hold_Queue_Ripe rfl rfl rfl ?_
 (refine sw_seq (sw_region ?_); refine so_1 rfl ?_; refine so_nil (sn_then ?_); (iterate 2 refine sw_seq ?_); refine sw_region ?_; refine so_1 rfl ?_)
 refine so_callE rfl rfl rfl (none_H) ?_
 (refine so_nil (sn_then ?_); refine sw_cond_f rfl ?_; refine sw_skip ?_; refine sn_then ?_; (iterate 2 refine sw_seq ?_); refine sw_region ?_; (iterate 3 refine so_1 rfl ?_); refine so_l 0 rfl rfl rfl ?_)
 refine so_call rfl rfl rfl ((drained_S (F := pt gq t_hold_Queue [v, h, .map (some gm)] :: rZ v V :: rP h R :: mpH gm H :: F) (up (fun w H => (H.oat (k := 2) rfl).sl) (ent_keep 5 [1, 2, 3, 4, 0] rfl rfl)) h32 hs hp hn).ent (ent_keep 5 [4, 0, 1, 2, 3] rfl rfl)) ?_
 rintro v11 _ ⟨O, hO1, hO2, rfl⟩
 refine so_fact (fun w H => (H.oat (k := 0) rfl).form) ?_
 rintro ⟨A1, c1, rfl, _, _, k3⟩
 have hOl := hO1.length_eq
 ((iterate 2 refine so_1 rfl ?_); refine so_nil (sn_then ?_); refine sw_block ?_)
 refine sw_loop (S := Nat × Nat × Option Addr × Nat) (fun s => [(0, .pointer (some ⟨gq, 0, none⟩)), (2, .slice s.2.2.1 s.2.1 s.2.2.2), (11, .slice A1 O.length c1), (12, .int .i64 O.length), (13, .int .i64 (s.1 : Int))])
  (fun s => rO s.2.2.1 s.2.2.2 s.2.1 (ripes V (O.take s.1)) :: rW A1 c1 O.length O :: stH gq gm v V h R H F) (fun s => s.1 ≤ O.length ∧ (ripes V (O.take s.1)).length = s.2.1) (fun s => O.length - s.1) (0, 0, none, 0) ⟨rfl, rfl, rfl, rfl, rfl, trivial⟩ ?_ ⟨Nat.zero_le _, rfl⟩ ?_
 ·exact (ent_row_nil t_api_Dot 2 rfl).trans (ent_keep 7 [0, 1, 3, 4, 5, 6, 2] rfl rfl)
 rintro ⟨i, o, A, c⟩ ⟨hi, ho⟩
 dsimp only at hi ho ⊢
 have hole := ripes_le V (O.take i)
 rw [List.length_take] at hole
 (refine sw_seq (sw_region ?_); refine so_1 rfl ?_; refine so_nil (sn_then ?_); refine sw_seq ?_)
 refine sw_if rfl (fun h1 => ?_) (fun h1 => ?_)
 ·have h1' : i < O.length := by omega
  obtain ⟨gg, oo, rfl⟩ := k3 (by omega)
  have hmem : O[i] ∈ H := hs _ (hO1.subset (List.getElem_mem h1'))
  have ci : (ptrs O)[i]? = some (.pointer (some ⟨O[i].g, 0, none⟩)) := by simp [ptrs, h1']
  have hsn : ripes V (O.take (i + 1)) = if leqL O[i].e.deps V then ripes V (O.take i) ++ [(O[i].e.r, O[i].e.n)] else ripes V (O.take i) := by rw [List.take_succ_eq_append_getElem h1']; exact ripes_snoc V _ _
  generalize O[i] = x at *
  (refine sw_skip ?_; refine sn_then ?_; refine sw_seq ?_; refine sw_block ?_; refine sw_seq (sw_region ?_); refine so_2 rfl (by omega) ?_)
  refine so_rd rfl (fun w H => ex_load rfl rfl rfl (by rw [mulz_eq, Int.toNat_natCast, Nat.mul_one]; exact row_cell (k := 1) rfl ci w H)) rfl ?_
  (refine so_1 rfl ?_; refine so_nil (sn_then ?_); refine sw_seq (sw_region ?_); (iterate 2 refine so_1 rfl ?_))
  refine so_callE rfl rfl rfl ((ripe_S hmem).at (ent_keep 7 [2, 3, 4, 5, 6, 0, 1] rfl rfl) (ent_keep 7 [5, 6, 0, 1, 2, 3, 4] rfl rfl)) ?_
  cases hq : leqL x.e.deps V with
  | false =>
   rw [hq] at hsn
   (refine so_nil (sn_then ?_); refine sw_cond_f rfl ?_; refine sw_skip ?_; refine sn_block ?_; refine sn_then ?_; refine sw_region ?_; refine so_2 rfl (by (unfold I64; omega)) ?_; refine so_1 rfl ?_; refine so_nil ?_)
   refine sn_round (i + 1, o, A, c) ⟨rfl, rfl, rfl, rfl, rfl, trivial⟩ (by simp only [hsn]; exact Ent.refl _) ⟨h1', by dsimp only; rw [hsn]; exact ho⟩ (by dsimp only; omega)
  | true =>
   rw [hq, if_pos rfl] at hsn
   (refine so_nil (sn_then ?_); refine sw_cond_t rfl ?_; refine sw_region ?_; (iterate 5 refine so_1 rfl ?_))
   refine so_rd rfl (fun w H => ex_loadN (cs := [.int .i64 x.e.r, .int .i64 x.e.n]) rfl rfl rfl rfl (fun j hj => by
    rw [Nat.zero_add]
    rcases j with _ | _ | j
    ·exact wF_cell (k := 6) (i := 0) rfl hmem rfl w H
    ·exact wF_cell (k := 6) (i := 1) rfl hmem rfl w H
    ·simp only [List.length_cons, List.length_nil] at hj; omega)) rfl ?_
   refine so_lit1 rfl rfl rfl rfl rfl rfl rfl rfl (by decide) fun gl => ?_
   refine so_append 1 rfl rfl rfl rfl rfl rfl rfl rfl rfl (m := 1) (news := [.int .i64 x.e.r, .int .i64 x.e.n]) (fun w H => (H.blk (k := 0) rfl).sl rfl (by decide)) (fun u hu => by simp at hu; rcases hu with rfl | rfl <;> rfl) (by omega) (fun _ => rfl) fun v8 => ?_
   rw [dotsC_app]
   refine so_fact (fun w H => (H.oat (k := 1) rfl).form) ?_
   rintro ⟨A7, c7, rfl, _, _, _⟩
   (refine so_1 rfl ?_; refine so_nil ?_; refine sn_block ?_; refine sn_then ?_; refine sw_region ?_; refine so_2 rfl (by (unfold I64; omega)) ?_; refine so_1 rfl ?_; refine so_nil ?_)
   refine sn_round (i + 1, o + 1, A7, c7) ⟨rfl, rfl, rfl, rfl, rfl, trivial⟩ (by simp only [hsn]; exact ent_keep 8 [1, 2, 3, 4, 5, 6, 7] rfl rfl) ⟨h1', by dsimp only; rw [hsn, List.length_append, ho]; rfl⟩ (by dsimp only; omega)
 ·(refine sw_exit ?_; refine sn_then_exit ?_; refine sn_loop_exit ?_; refine sn_block_exit ?_; refine sn_then ?_; refine sw_seq (sw_region ?_); (iterate 2 refine so_1 rfl ?_); refine so_nil (sn_then ?_); refine sw_ret ?_)
  obtain rfl : i = O.length := by omega
  rw [List.take_length] at ho ⊢
  subst ho
  refine sn_ret rfl (.tmp rfl .nil) (ent_keep 7 [0, 2, 3, 4, 5, 6] rfl rfl) ?_
  exact ⟨O, A, c, hO1, hO2, rfl, rfl⟩
end

theorem i64wf (x : Int) : (Lit.int .i64 x).wf = true ↔ I64 x := by
 have h1 : IntKind.i64.min = -9223372036854775808 := by decide
 have h2 : IntKind.i64.max = 9223372036854775807 := by decide
 simp [Lit.wf, h1, h2, I64]
def nS : Value := .slice none 0 0
def nE (e : Ev) : Ev := e.own nS nS
def nW (w : Wn) : Wn := ⟨0, nE w.e, w.src⟩
def flC {α : Type} (f : α → List Value) : List α → List Value
 | [] => []
 | a :: l => f a ++ flC f l
section
variable {α : Type} {f : α → List Value} {l : List α} {sz : Nat}
theorem flC_app (a c : List α) : flC f (a ++ c) = flC f a ++ flC f c := by
 induction a with
 | nil => rfl
 | cons x a ih => simp only [List.cons_append, flC, ih, List.append_assoc]
theorem flC_len (h : ∀ a ∈ l, (f a).length = sz) : (flC f l).length = l.length * sz := by
 induction l with
 | nil => simp [flC]
 | cons x l ih =>
  have h1 := h x List.mem_cons_self
  have h2 := ih fun w hw => h w (List.mem_cons_of_mem _ hw)
  simp only [flC, List.length_append, h1, h2, List.length_cons, Nat.succ_mul]; omega
theorem flC_at (h : ∀ a ∈ l, (f a).length = sz) {i : Nat} (hi : i < l.length) {j : Nat} (hj : j < sz) : (flC f l)[i * sz + j]? = (f l[i])[j]? := by
 induction l generalizing i with
 | nil => simp at hi
 | cons x l ih =>
  have h1 := h x List.mem_cons_self
  cases i with
  | zero => simp only [flC, Nat.zero_mul, Nat.zero_add, List.getElem_cons_zero]; exact List.getElem?_append_left (by omega)
  | succ i =>
   simp only [flC, List.getElem_cons_succ]
   rw [List.getElem?_append_right (by rw [h1, Nat.succ_mul]; omega), h1, Nat.succ_mul, show i * sz + sz + j - sz = i * sz + j by omega]
   exact ih (fun w hw => h w (List.mem_cons_of_mem _ hw)) (by simpa using hi)
theorem flC_seg (h : ∀ a ∈ l, (f a).length = sz) {i : Nat} (hi : i < l.length) : ((flC f l).drop (i * sz)).take sz = f l[i] := by
 apply List.ext_getElem?
 intro j
 rw [List.getElem?_take, List.getElem?_drop]
 have h1 := h _ (List.getElem_mem hi)
 split
 ·rename_i hj; exact flC_at h hi hj
 ·rename_i hj; rw [List.getElem?_eq_none (by omega)]
theorem flC_set (h : ∀ a ∈ l, (f a).length = sz) {i : Nat} {x : α} (hx : (f x).length = sz) (hi : i < l.length) : spl (flC f l) (i * sz) (f x) = flC f (l.set i x) := by
 induction l generalizing i with
 | nil => simp at hi
 | cons y l ih =>
  have h1 := h y List.mem_cons_self
  cases i with
  | zero =>
   simp only [List.set_cons_zero, flC, spl, Nat.zero_mul, List.take_zero, List.nil_append, Nat.zero_add, hx]
   rw [List.drop_append_of_le_length (by omega), List.drop_of_length_le (by omega), List.nil_append]
  | succ i =>
   have := ih (fun w hw => h w (List.mem_cons_of_mem _ hw)) (by simpa using hi)
   simp only [List.set_cons_succ, flC, ← this, spl]
   rw [Nat.succ_mul, show i * sz + sz = (f y).length + i * sz by omega, List.take_length_add_append, show (f y).length + i * sz + (f x).length = (f y).length + (i * sz + (f x).length) by omega, List.drop_length_add_append, List.append_assoc]
theorem flC_one (h : ∀ a ∈ l, ∀ u ∈ f a, u.oneCell' = true) : ∀ u ∈ flC f l, u.oneCell' = true := by
 induction l with
 | nil => intro u hu; simp [flC] at hu
 | cons x l ih =>
  intro u hu
  rcases List.mem_append.1 hu with hu | hu
  ·exact h x List.mem_cons_self u hu
  ·exact ih (fun w hw => h w (List.mem_cons_of_mem _ hw)) u hu
theorem sl_cell {w : World} {bk off n c j : Nat} {cs : List Value} (h : SL w sz (.slice (some ⟨bk, off, none⟩) n c) n cs) (hj : j < cs.length) : w.cell? ⟨bk, off + j, none⟩ = cs[j]? := by
 obtain ⟨A, c', hv, hl, _, _, _, hc⟩ := h
 cases hv
 obtain ⟨b', o', hA, _, hcc⟩ := hc (by
  rcases Nat.eq_zero_or_pos n with h0 | h0
  ·subst h0; simp at hl; subst hl; simp at hj
  ·exact h0)
 cases hA
 exact hcc j hj
theorem fl_cell {w : World} {bk off c i j : Nat} (h : SL w sz (.slice (some ⟨bk, off, none⟩) l.length c) l.length (flC f l)) (hf : ∀ a ∈ l, (f a).length = sz) (hi : i < l.length) (hj : j < sz) : w.cell? ⟨bk, off + i * sz + j, none⟩ = (f l[i])[j]? := by
 rw [Nat.add_assoc, sl_cell h, flC_at hf hi hj]
 rw [flC_len hf]
 have : (i + 1) * sz ≤ l.length * sz := Nat.mul_le_mul_right _ hi
 rw [Nat.succ_mul] at this; omega
end
theorem segO_front {l : List Value} (m : List Value) {n : Nat} (h : l.length = n) : segO (l ++ m) 0 n = some l := by
 subst h
 induction l with
 | nil => cases m <;> rfl
 | cons a l ih => simp only [List.cons_append, List.length_cons, segO, ih]
theorem evC_id {e : Ev} (h : e.id.length = 32) : segO (evC e) 6 32 = some (u8s e.id) := segO_front (n := 32) _ (by rw [u8s_len, h])
theorem idsC_fl (l : List (List Int)) : idsC l = flC u8s l := by
 induction l with
 | nil => rfl
 | cons x l ih => simp only [idsC, flC, ih]
abbrev wssC : List Wn → List Value := flC waC
abbrev evsC : List Ev → List Value := flC evC
def wsP (w : Wn) : List SP := [rZ w.e.dv w.e.deps, rD w.e.rv w.e.refs]
def wsF : List Wn → List SP
 | [] => []
 | w :: l => wsP w ++ wsF l
theorem wsF_app (a c : List Wn) : wsF (a ++ c) = wsF a ++ wsF c := by
 induction a with
 | nil => rfl
 | cons x a ih => simp only [List.cons_append, wsF, ih, List.append_assoc]
theorem wsF_snoc {a : List Wn} {x : Wn} : (wsF (a ++ [x])).Perm (wsP x ++ wsF a) := by
 rw [wsF_app]
 exact List.perm_append_comm.trans (.of_eq (by simp [wsF]))
def evP (e : Ev) : List SP := [rZ e.dv e.deps, rD e.rv e.refs]
def evF : List Ev → List SP
 | [] => []
 | e :: l => evP e ++ evF l
theorem evF_app (a c : List Ev) : evF (a ++ c) = evF a ++ evF c := by
 induction a with
 | nil => rfl
 | cons x a ih => simp only [List.cons_append, evF, ih, List.append_assoc]
theorem evF_snoc {a : List Ev} {x : Ev} : (evF (a ++ [x])).Perm (evP x ++ evF a) := by
 rw [evF_app]
 exact List.perm_append_comm.trans (.of_eq (by simp [evF]))
abbrev rWn (A : Option Addr) (c n : Nat) (l : List Wn) : SP := row t_api_Waiting 40 (.slice A n c) n (wssC l)
abbrev rWs (v : Value) (l : List Wn) : SP := row t_api_Waiting 40 v l.length (wssC l)
abbrev rEn (A : Option Addr) (c n : Nat) (l : List Ev) : SP := row t_api_Event 39 (.slice A n c) n (evsC l)
abbrev rEs (v : Value) (l : List Ev) : SP := row t_api_Event 39 v l.length (evsC l)
structure ER (w : World) (e : Ev) : Prop where
 dv : VL (Value.int .i64) w e.dv e.deps
 rv : SL w 32 e.rv e.refs.length (idsC e.refs)
structure EW (e : Ev) : Prop where
 id : idOk e.id
 dot : dotOk (e.r, e.n)
 rf : ∀ x ∈ e.refs, idOk x
 kind : I64 e.kind
 dp : ∀ x ∈ e.deps, I64 x
 rs : e.repo.size ≤ maxLen
 ts : e.tag.size ≤ maxLen
theorem EW.l32 {e : Ev} (h : EW e) : e.id.length = 32 := h.id.1
theorem EW.r32 {e : Ev} (h : EW e) : len32 e.refs := fun x hx => (h.rf x hx).1
theorem EW.own {e : Ev} (h : EW e) (dv rv : Value) : EW (e.own dv rv) := ⟨h.id, h.dot, h.rf, h.kind, h.dp, h.rs, h.ts⟩
structure EL (w : World) (v : Value) (l : List Ev) : Prop where
 sl : SL w 39 v l.length (evsC l)
 er : ∀ m ∈ l, ER w m
section
variable {b : World} {F : List SP} {e : Ev} {l : List Wn}
theorem wsF_er {k : Nat} (hk : nth F k = some (all (wsF l))) {m : Wn} (hm : m ∈ l) : ∀ w, Sat b F w → ER w m.e := fun w hS => by
 obtain ⟨l1, l2, rfl⟩ := List.append_of_mem hm
 obtain ⟨h1, hl, hA⟩ := hS.mem.get hk
 have hp : (wsF (l1 ++ m :: l2)).Perm (wsP m ++ wsF (l1 ++ l2)) := by
  rw [wsF_app, wsF, wsF_app, ← List.append_assoc, ← List.append_assoc]
  exact List.perm_append_comm.append_right _
 have h2 : Sat b (wsP m ++ wsF (l1 ++ l2)) w := ⟨hS.os, hS.tape, hS.output, (ent_perm hp _ hA).mono hl⟩
 exact ⟨vlZ (k := 0) rfl w h2, (h2.oat (k := 1) rfl).sl⟩
theorem evF_er {l : List Ev} {k : Nat} (hk : nth F k = some (all (evF l))) {m : Ev} (hm : m ∈ l) : ∀ w, Sat b F w → ER w m := fun w hS => by
 obtain ⟨l1, l2, rfl⟩ := List.append_of_mem hm
 obtain ⟨h1, hl, hA⟩ := hS.mem.get hk
 have hp : (evF (l1 ++ m :: l2)).Perm (evP m ++ evF (l1 ++ l2)) := by
  rw [evF_app, evF, evF_app, ← List.append_assoc, ← List.append_assoc]
  exact List.perm_append_comm.append_right _
 have h2 : Sat b (evP m ++ evF (l1 ++ l2)) w := ⟨hS.os, hS.tape, hS.output, (ent_perm hp _ hA).mono hl⟩
 exact ⟨vlZ (k := 0) rfl w h2, (h2.oat (k := 1) rfl).sl⟩
theorem rEs_el {l : List Ev} {v : Value} {k j : Nat} (hk : nth F k = some (rEs v l)) (hj : nth F j = some (all (evF l))) : ∀ w, Sat b F w → EL w v l := fun w H => ⟨(H.oat hk).sl, fun _ hm => evF_er hj hm w H⟩
theorem SameInts_S {va vb : Value} {xs ys : List Int} (ha : ∀ w, Sat b F w → VL (Value.int .i64) w va xs) (hb : ∀ w, Sat b F w → VL (Value.int .i64) w vb ys) : SC Tryz.prog n_entrepotkit_SameInts [va, vb] b F (fun v F' => v = .bool (decide (xs = ys)) ∧ F' = F) :=
 SC.ofExt fun w H => SameInts_spec (ha w H) (hb w H)
set_option maxHeartbeats 1000000 in
theorem SameIDs_R {va vb : Value} {l : List (List Int)} (ha : ∀ w, Sat b F w → SL w 32 va l.length (idsC l)) (hb : ∀ w, Sat b F w → SL w 32 vb l.length (idsC l)) (hl : len32 l) (hm : l.length ≤ 1000000) : SC Tryz.prog n_entrepotkit_SameIDs [va, vb] b F (fun v F' => v = .bool true ∧ F' = F) := by
 refine enterS F_entrepotkit_SameIDs rfl rfl rfl ?_
 refine sw_fact (fun w H => sl_form (ha w H)) ?_
 rintro ⟨A, c, rfl, h1, h2, h3, h4, _⟩
 refine sw_fact (fun w H => sl_form (hb w H)) ?_
 rintro ⟨B, d, rfl, q1, q2, q3, q4, _⟩
 (refine sw_seq (sw_region ?_); refine so_1 rfl ?_; refine so_nil (sn_then ?_); refine sw_seq (sw_region ?_); (iterate 6 refine so_1 rfl ?_); refine so_nil (sn_then ?_); (iterate 2 refine sw_seq ?_); refine sw_region ?_; refine so_1 rfl ?_; refine so_nil (sn_then ?_); refine sw_block ?_)
 refine sw_know 5 (.bool true) rfl (by simp) ?_
 refine sw_loop (S := Nat) (fun i => [(0, .slice A l.length c), (1, .slice B l.length d), (5, .bool true), (6, .int .i64 (i : Int))]) (fun _ => F) (fun i => i ≤ l.length) (fun i => l.length - i) 0 ⟨rfl, rfl, rfl, rfl, trivial⟩ (Ent.refl _) (Nat.zero_le _) ?_
 intro i hi
 ((iterate 2 refine sw_seq ?_); refine sw_region ?_; (iterate 7 refine so_1 rfl ?_); refine so_nil (sn_then ?_))
 refine sw_if rfl (fun g1 => ?_) (fun g1 => ?_)
 ·have g1' : i < l.length := by omega
  obtain ⟨gA, oA, rfl⟩ := h4 (by omega)
  obtain ⟨gB, oB, rfl⟩ := q4 (by omega)
  have hx := hl _ (List.getElem_mem g1')
  have ca : ∀ w, Sat b F w → ∀ j, j < 32 → w.cell? ⟨gA, oA + i * 32 + j, none⟩ = (u8s l[i])[j]? := fun w H j hj => fl_cell (f := u8s) (by rw [← idsC_fl]; exact ha w H) (fun a h => by rw [u8s_len, hl a h]) g1' hj
  have cb : ∀ w, Sat b F w → ∀ j, j < 32 → w.cell? ⟨gB, oB + i * 32 + j, none⟩ = (u8s l[i])[j]? := fun w H j hj => fl_cell (f := u8s) (by rw [← idsC_fl]; exact hb w H) (fun a h => by rw [u8s_len, hl a h]) g1' hj
  generalize l[i] = x at *
  (refine sw_skip ?_; refine sn_then ?_; refine sw_seq ?_; refine sw_block ?_)
  refine sw_draw flo _ (by decide +kernel) (Ent.refl _) ?_
  ((iterate 2 refine sd_1 rfl (.inl rfl) ?_); refine sd_2 rfl rfl (by omega) ?_)
  refine sd_rd rfl (fun w H => ex_loadN (cs := u8s x) rfl rfl rfl (by rw [u8s_len, hx]; rfl) (fun j hj => by rw [mulz_eq, Int.toNat_natCast]; exact ca w H j (by rw [u8s_len, hx] at hj; exact hj))) rfl rfl ?_
  ((iterate 2 refine sd_1 rfl (.inl rfl) ?_); refine sd_2 rfl rfl (by omega) ?_)
  refine sd_rd rfl (fun w H => ex_loadN (cs := u8s x) rfl rfl rfl (by rw [u8s_len, hx]; rfl) (fun j hj => by rw [mulz_eq, Int.toNat_natCast]; exact cb w H j (by rw [u8s_len, hx] at hj; exact hj))) rfl rfl ?_
  refine sd_pu rfl (pu_eqI (as00 := x) (bs := x) rfl rfl hx hx) rfl rfl ?_
  refine sd_know 29 (.bool true) rfl (by simp) ?_
  (refine sd_1 rfl (.inl rfl) ?_)
  refine sd_nil ?_
  (refine sn_block ?_; refine sn_then ?_; refine sw_region ?_; refine so_1 rfl ?_; refine so_2 rfl (by (unfold I64; omega)) ?_; refine so_1 rfl ?_; refine so_nil ?_)
  refine sn_round (i + 1) ⟨rfl, rfl, rfl, rfl, trivial⟩ (Ent.refl _) ?_ ?_
  ·show i + 1 ≤ l.length
   omega
  ·show l.length - (i + 1) < l.length - i
   omega
 ·(refine sw_exit ?_; refine sn_then_exit ?_; refine sn_loop_exit ?_; refine sn_block_exit ?_; refine sn_then ?_; refine sw_seq (sw_region ?_); (iterate 2 refine so_1 rfl ?_); refine so_nil (sn_then ?_); refine sw_ret ?_)
  refine sn_ret rfl (.tmp rfl .nil) (Ent.refl _) ?_
  exact ⟨rfl, rfl⟩
set_option maxRecDepth 20000 in
set_option maxHeartbeats 1000000 in
theorem LongEvent_S (h32 : e.id.length = 32) (he : ∀ w, Sat b F w → ER w e) : SC Tryz.prog n_entrepotkit_LongEvent [evV e] b F (fun v F' => ∃ q : Bool, (q = false → e.deps.length ≤ 20 ∧ e.refs.length ≤ 300 ∧ e.repo.size ≤ 200 ∧ e.tag.size ≤ 200) ∧ v = .bool q ∧ F' = F) := by
 refine enterS F_entrepotkit_LongEvent rfl rfl rfl ?_
 refine sw_fact (fun w H => (he w H).dv.form) ?_
 rintro ⟨A, c, hdv, _, _, _, _⟩
 refine sw_fact (fun w H => sl_form (he w H).rv) ?_
 rintro ⟨A2, c2, hrv, _, _, _, _, _⟩
 (refine sw_seq (sw_region ?_))
 refine so_box rfl rfl rfl rfl rfl fun g1 => ?_
 (refine so_1 rfl ?_; refine so_nil (sn_then ?_); refine sw_seq (sw_region ?_); refine so_1 rfl ?_; refine so_l 0 rfl rfl rfl ?_)
 refine so_know 4 (.slice A e.deps.length c) rfl hdv ?_
 ((iterate 3 refine so_1 rfl ?_))
 by_cases h1 : 20 < e.deps.length
 ·refine so_know 7 (.bool true) rfl (congrArg Value.bool (decide_eq_true (by omega))) ?_
  ((iterate 18 refine so_1 rfl ?_); refine so_nil (sn_then ?_); refine sw_ret ?_)
  refine sn_ret rfl (.tmp rfl .nil) (ent_keep 1 [] rfl rfl) ?_
  exact ⟨true, (fun h => by cases h), rfl, rfl⟩
 refine so_know 7 (.bool false) rfl (congrArg Value.bool (decide_eq_false (by omega))) ?_
 (refine so_1 rfl ?_)
 refine so_ld 0 rfl rfl rfl rfl rfl rfl (evC_rv h32) rfl ?_
 refine so_know 9 (.slice A2 e.refs.length c2) rfl hrv ?_
 ((iterate 4 refine so_1 rfl ?_))
 by_cases h2 : 300 < e.refs.length
 ·refine so_know 13 (.bool true) rfl (congrArg Value.bool (decide_eq_true (by omega))) ?_
  ((iterate 12 refine so_1 rfl ?_); refine so_nil (sn_then ?_); refine sw_ret ?_)
  refine sn_ret rfl (.tmp rfl .nil) (ent_keep 1 [] rfl rfl) ?_
  exact ⟨true, (fun h => by cases h), rfl, rfl⟩
 refine so_know 13 (.bool false) rfl (congrArg Value.bool (decide_eq_false (by omega))) ?_
 (refine so_1 rfl ?_; refine so_l 0 rfl rfl rfl ?_; (iterate 4 refine so_1 rfl ?_))
 by_cases h3 : 200 < e.repo.size
 ·refine so_know 19 (.bool true) rfl (congrArg Value.bool (decide_eq_true (by omega))) ?_
  ((iterate 6 refine so_1 rfl ?_); refine so_nil (sn_then ?_); refine sw_ret ?_)
  refine sn_ret rfl (.tmp rfl .nil) (ent_keep 1 [] rfl rfl) ?_
  exact ⟨true, (fun h => by cases h), rfl, rfl⟩
 refine so_know 19 (.bool false) rfl (congrArg Value.bool (decide_eq_false (by omega))) ?_
 (refine so_1 rfl ?_; refine so_l 0 rfl rfl rfl ?_; (iterate 4 refine so_1 rfl ?_); refine so_nil (sn_then ?_); refine sw_ret ?_)
 refine sn_ret rfl (.tmp rfl .nil) (ent_keep 1 [] rfl rfl) ?_
 exact ⟨_, fun h => ⟨by omega, by omega, by omega, by have := of_decide_eq_false h; omega⟩, rfl, rfl⟩
end

theorem nE_eq {e f : Ev} (h : nE e = nE f) : ∃ dv rv, f = e.own dv rv := by
 refine ⟨f.dv, f.rv, ?_⟩
 have h1 : f = (nE f).own f.dv f.rv := rfl
 rw [h1, ← h]; rfl
section
variable {b : World} {F : List SP} {e f : Ev} {l : List Wn}
set_option maxRecDepth 20000 in
set_option maxHeartbeats 2000000 in
theorem SameEvent_S (h : nE e = nE f) (he : ∀ w, Sat b F w → ER w e) (hf : ∀ w, Sat b F w → ER w f) (h32 : e.id.length = 32) (hr : len32 e.refs) (hl : e.refs.length ≤ 1000000) :
  SC Tryz.prog n_entrepotkit_SameEvent [evV e, evV f] b F (fun v F' => v = .bool true ∧ F' = F) := by
 obtain ⟨dv, rv, rfl⟩ := nE_eq h
 have h33 : (e.own dv rv).id.length = 32 := h32
 refine enterS F_entrepotkit_SameEvent rfl rfl rfl ?_
 (refine sw_seq (sw_region ?_))
 refine so_box rfl rfl rfl rfl rfl fun g2 => ?_
 skip
 refine so_box rfl rfl rfl rfl rfl fun g3 => ?_
 (refine so_1 rfl ?_; refine so_nil (sn_then ?_); refine sw_seq (sw_region ?_); refine so_1 rfl ?_; refine so_l 1 rfl rfl rfl ?_; refine so_1 rfl ?_; refine so_l 0 rfl rfl rfl ?_)
 refine so_pu rfl (pu_eqA rfl rfl (eq_dot _ _ _ _)) rfl ?_
 refine so_know 9 (.bool true) rfl (congrArg Value.bool (decide_eq_true ⟨rfl, rfl⟩)) ?_
 ((iterate 2 refine so_1 rfl ?_); refine so_l 1 rfl rfl rfl ?_; refine so_1 rfl ?_; refine so_l 0 rfl rfl rfl ?_)
 refine so_callE rfl rfl rfl (SameInts_S (up (fun w H => (he w H).dv) (ent_keep 2 [] rfl rfl)) (up (fun w H => (hf w H).dv) (ent_keep 2 [] rfl rfl))) ?_
 refine so_know 15 (.bool true) rfl (congrArg Value.bool (decide_eq_true rfl)) ?_
 ((iterate 3 refine so_1 rfl ?_); refine so_l 1 rfl rfl rfl ?_; refine so_1 rfl ?_; refine so_l 0 rfl rfl rfl ?_; (iterate 3 refine so_1 rfl ?_))
 refine so_know 24 (.bool true) rfl (congrArg Value.bool (decide_eq_true rfl)) ?_
 (refine so_1 rfl ?_; refine so_l 1 rfl rfl rfl ?_; refine so_1 rfl ?_; refine so_l 0 rfl rfl rfl ?_; (iterate 3 refine so_1 rfl ?_))
 refine so_know 31 (.bool true) rfl (by first | exact congrArg Value.bool (decide_eq_true rfl) | simp [Ev.own]) ?_
 (refine so_1 rfl ?_; refine so_l 1 rfl rfl rfl ?_; refine so_1 rfl ?_; refine so_l 0 rfl rfl rfl ?_; (iterate 3 refine so_1 rfl ?_))
 refine so_know 38 (.bool true) rfl (by first | exact congrArg Value.bool (decide_eq_true rfl) | simp [Ev.own]) ?_
 (refine so_1 rfl ?_)
 refine so_ldA 1 rfl rfl rfl rfl rfl rfl (evC_id h32) rfl ?_
 (refine so_1 rfl ?_)
 refine so_ldA 0 rfl rfl rfl rfl rfl rfl (evC_id h33) rfl ?_
 refine so_pu rfl (pu_eqI (as00 := e.id) (bs := e.id) rfl rfl h32 h32) rfl ?_
 refine so_know 43 (.bool true) rfl (congrArg Value.bool (decide_eq_true rfl)) ?_
 ((iterate 3 refine so_1 rfl ?_))
 refine so_ld 1 rfl rfl rfl rfl rfl rfl (evC_rv h32) rfl ?_
 (refine so_1 rfl ?_)
 refine so_ld 0 rfl rfl rfl rfl rfl rfl (evC_rv h33) rfl ?_
 refine so_callE rfl rfl rfl (SameIDs_R (l := e.refs) (up (fun w H => (he w H).rv) (ent_keep 2 [] rfl rfl)) (up (fun w H => (hf w H).rv) (ent_keep 2 [] rfl rfl)) hr hl) ?_
 ((iterate 2 refine so_1 rfl ?_); refine so_nil (sn_then ?_); refine sw_ret ?_)
 refine sn_ret rfl (.tmp rfl .nil) (ent_keep 2 [] rfl rfl) ?_
 exact ⟨rfl, rfl⟩
theorem ev_len {l : List Ev} (h : ∀ m ∈ l, m.id.length = 32) : ∀ m ∈ l, (evC m).length = 39 := fun m hm => evC_len (h m hm)
theorem ev_cell {l : List Ev} {w : World} {bk off c i j : Nat} (h : EL w (.slice (some ⟨bk, off, none⟩) l.length c) l) (h32 : ∀ m ∈ l, m.id.length = 32) (hi : i < l.length) (hj : j < 39) : w.cell? ⟨bk, off + i * 39 + j, none⟩ = (evC l[i])[j]? := fl_cell h.sl (ev_len h32) hi hj
end

section
variable {b : World} {F : List SP}
theorem dotsC_fl (l : List (Int × Int)) : dotsC l = flC (fun d : Int × Int => [.int .i64 d.1, .int .i64 d.2]) l := by
 induction l with
 | nil => rfl
 | cons x l ih => simp only [dotsC, flC, ih]; rfl
theorem SameDots_S {va vb : Value} {l : List (Int × Int)} (ha : ∀ w, Sat b F w → SL w 2 va l.length (dotsC l)) (hb : ∀ w, Sat b F w → SL w 2 vb l.length (dotsC l)) (hm : l.length ≤ 1000000) : SC Tryz.prog n_entrepotkit_SameDots [va, vb] b F (fun v F' => v = .bool true ∧ F' = F) := by
 refine enterS F_entrepotkit_SameDots rfl rfl rfl ?_
 refine sw_fact (fun w H => sl_form (ha w H)) ?_
 rintro ⟨A, c, rfl, h1, h2, h3, h4, _⟩
 refine sw_fact (fun w H => sl_form (hb w H)) ?_
 rintro ⟨B, d, rfl, q1, q2, q3, q4, _⟩
 (refine sw_seq (sw_region ?_); refine so_1 rfl ?_; refine so_nil (sn_then ?_); refine sw_seq (sw_region ?_); (iterate 6 refine so_1 rfl ?_); refine so_nil (sn_then ?_); (iterate 2 refine sw_seq ?_); refine sw_region ?_; refine so_1 rfl ?_; refine so_nil (sn_then ?_); refine sw_block ?_)
 refine sw_know 5 (.bool true) rfl (by simp) ?_
 refine sw_loop (S := Nat) (fun i => [(0, .slice A l.length c), (1, .slice B l.length d), (5, .bool true), (6, .int .i64 (i : Int))]) (fun _ => F) (fun i => i ≤ l.length) (fun i => l.length - i) 0 ⟨rfl, rfl, rfl, rfl, trivial⟩ (Ent.refl _) (Nat.zero_le _) ?_
 intro i hi
 ((iterate 2 refine sw_seq ?_); refine sw_region ?_; (iterate 7 refine so_1 rfl ?_); refine so_nil (sn_then ?_))
 refine sw_if rfl (fun g1 => ?_) (fun g1 => ?_)
 ·have g1' : i < l.length := by omega
  obtain ⟨gA, oA, rfl⟩ := h4 (by omega)
  obtain ⟨gB, oB, rfl⟩ := q4 (by omega)
  have ca : ∀ w, Sat b F w → ∀ j, j < 2 → w.cell? ⟨gA, oA + i * 2 + j, none⟩ = [Value.int .i64 l[i].1, .int .i64 l[i].2][j]? := fun w H j hj => fl_cell (f := fun d : Int × Int => [.int .i64 d.1, .int .i64 d.2]) (by rw [← dotsC_fl]; exact ha w H) (fun _ _ => rfl) g1' hj
  have cb : ∀ w, Sat b F w → ∀ j, j < 2 → w.cell? ⟨gB, oB + i * 2 + j, none⟩ = [Value.int .i64 l[i].1, .int .i64 l[i].2][j]? := fun w H j hj => fl_cell (f := fun d : Int × Int => [.int .i64 d.1, .int .i64 d.2]) (by rw [← dotsC_fl]; exact hb w H) (fun _ _ => rfl) g1' hj
  generalize l[i] = x at *
  (refine sw_skip ?_; refine sn_then ?_; refine sw_seq ?_; refine sw_block ?_)
  refine sw_draw flo _ (by decide +kernel) (Ent.refl _) ?_
  ((iterate 2 refine sd_1 rfl (.inl rfl) ?_); refine sd_2 rfl rfl (by omega) ?_)
  refine sd_rd rfl (fun w H => ex_loadN (cs := [.int .i64 x.1, .int .i64 x.2]) rfl rfl rfl rfl (fun j hj => by rw [mulz_eq, Int.toNat_natCast]; exact ca w H j hj)) rfl rfl ?_
  ((iterate 2 refine sd_1 rfl (.inl rfl) ?_); refine sd_2 rfl rfl (by omega) ?_)
  refine sd_rd rfl (fun w H => ex_loadN (cs := [.int .i64 x.1, .int .i64 x.2]) rfl rfl rfl rfl (fun j hj => by rw [mulz_eq, Int.toNat_natCast]; exact cb w H j hj)) rfl rfl ?_
  refine sd_pu rfl (pu_eqA rfl rfl (eq_dot _ _ _ _)) rfl rfl ?_
  refine sd_know 29 (.bool true) rfl (congrArg Value.bool (decide_eq_true ⟨rfl, rfl⟩)) ?_
  (refine sd_1 rfl (.inl rfl) ?_)
  refine sd_nil ?_
  (refine sn_block ?_; refine sn_then ?_; refine sw_region ?_; refine so_1 rfl ?_; refine so_2 rfl (by (unfold I64; omega)) ?_; refine so_1 rfl ?_; refine so_nil ?_)
  refine sn_round (i + 1) ⟨rfl, rfl, rfl, rfl, trivial⟩ (Ent.refl _) ?_ ?_
  ·show i + 1 ≤ l.length
   omega
  ·show l.length - (i + 1) < l.length - i
   omega
 ·(refine sw_exit ?_; refine sn_then_exit ?_; refine sn_loop_exit ?_; refine sn_block_exit ?_; refine sn_then ?_; refine sw_seq (sw_region ?_); (iterate 2 refine so_1 rfl ?_); refine so_nil (sn_then ?_); refine sw_ret ?_)
  refine sn_ret rfl (.tmp rfl .nil) (Ent.refl _) ?_
  exact ⟨rfl, rfl⟩
end

def LE (e : Ev) : Prop := e.deps.length ≤ 20 ∧ e.refs.length ≤ 300 ∧ e.repo.size ≤ 200 ∧ e.tag.size ≤ 200
section
variable {b : World} {F : List SP}
end
open Go

theorem flat_fl {α β : Type} {g : α → β} {f : β → List Value} : ∀ {ess : List (List Value)} {xs : List α}, ess.length = xs.length → (∀ (i : Nat) e a, ess[i]? = some e → xs[i]? = some a → e = f (g a)) → ess.flatten = flC f (xs.map g)
 | [], [], _, _ => rfl
 | [], _ :: _, h, _ => by simp at h
 | _ :: _, [], h, _ => by simp at h
 | e :: ess, a :: xs, h, hh => by
  rw [List.flatten_cons, hh 0 e a rfl rfl, flat_fl (by simpa using h) fun i e a h1 h2 => hh (i + 1) e a h1 h2]; rfl
theorem rdL_flat {α β : Type} {R : Rdg α} {g : α → β} {f : β → List Value} {p : β → Prop} {W : World} (hR : ∀ cs x, R W cs x → cs = f (g x) ∧ p (g x)) {sz : Nat} {cs : List Value} {x : Value × List α} (h : rdL sz R W cs x) : cs = [x.1] ∧ SL W sz x.1 (x.2.map g).length (flC f (x.2.map g)) ∧ ∀ y ∈ x.2.map g, p y := by
 obtain ⟨hv, ess, e1, e2, e3, e4⟩ := h
 have hf := flat_fl (f := f) (g := g) e1 fun i e a h1 h2 => (hR e a (e4 i e a h1 h2)).1
 rw [hf] at e3
 refine ⟨hv, by rw [List.length_map]; exact e3, fun y hy => ?_⟩
 obtain ⟨a, ha, rfl⟩ := List.mem_map.1 hy
 obtain ⟨i, hi, rfl⟩ := List.mem_iff_getElem.1 ha
 exact (hR _ _ (e4 i _ _ (List.getElem?_eq_getElem (by omega)) (List.getElem?_eq_getElem hi))).2
theorem rdI_list {W : World} {k : IntKind} {cs : List Value} {x : Value × List Int} (h : rdL 1 (rdI k) W cs x) : cs = [x.1] ∧ VL (Value.int k) W x.1 x.2 ∧ ∀ n ∈ x.2, (Lit.int k n).wf = true := by
 obtain ⟨h1, h2, h3⟩ := rdL_flat (g := id) (f := fun n => [Value.int k n]) (p := fun n => (Lit.int k n).wf = true) (fun cs x hx => ⟨hx.1, hx.2⟩) h
 rw [List.map_id] at h2 h3
 have e : ∀ l : List Int, flC (fun x : Int => [Value.int k x]) l = l.map (Value.int k) := fun l => by
  induction l with
  | nil => rfl
  | cons x l ih => simp only [flC, ih]; rfl
 rw [e] at h2
 exact ⟨h1, h2, h3⟩
theorem rdID_list {W : World} {cs : List Value} {x : Value × List (List Int)} (h : rdL 32 (Go.Eng.rdA 32 .u8) W cs x) : cs = [x.1] ∧ SL W 32 x.1 x.2.length (idsC x.2) ∧ ∀ y ∈ x.2, idOk y := by
 obtain ⟨h1, h2, h3⟩ := rdL_flat (g := id) (f := u8s) (p := idOk) (fun cs x hx => ⟨hx.1, hx.2⟩) h
 rw [List.map_id] at h2 h3
 rw [idsC_fl]
 exact ⟨h1, h2, h3⟩
abbrev rdEv : Rdg ((Int × Int) × (Value × List Int) × Int × ByteArray × ByteArray × List Int × (Value × List (List Int))) :=
 rdN 2 (rdN 1 (rdI .i64) (rdI .i64)) (rdN 1 (rdL 1 (rdI .i64)) (rdN 1 (rdI .i64) (rdN 1 rdS (rdN 1 rdS (rdN 32 (Go.Eng.rdA 32 .u8) (rdL 32 (Go.Eng.rdA 32 .u8)))))))
def evOf (x : (Int × Int) × (Value × List Int) × Int × ByteArray × ByteArray × List Int × (Value × List (List Int))) : Ev :=
 ⟨x.1.1, x.1.2, x.2.1.1, x.2.1.2, x.2.2.1, x.2.2.2.1, x.2.2.2.2.1, x.2.2.2.2.2.1, x.2.2.2.2.2.2.1, x.2.2.2.2.2.2.2⟩
theorem i64wf' {x : Int} (h : (Lit.int .i64 x).wf = true) : I64 x := (i64wf x).1 h
theorem cut_eq {n : Nat} {cs a c : List Value} (h1 : cs.take n = a) (h2 : cs.drop n = c) : cs = a ++ c := by rw [← h1, ← h2, List.take_append_drop]
theorem ev_of_rd {W : World} {cs : List Value} {x} (h : rdEv W cs x) : cs = evC (evOf x) ∧ EW (evOf x) ∧ ER W (evOf x) := by
 obtain ⟨h1, h2, h3, h4, h5, h6, h7⟩ := h
 obtain ⟨⟨a1, a2⟩, a3, a4⟩ := h1
 obtain ⟨b1, b2, b3⟩ := rdI_list h2
 obtain ⟨c1, c2⟩ := h3
 obtain ⟨d1, d2⟩ := h4
 obtain ⟨e1, e2⟩ := h5
 obtain ⟨f1, f2, f3⟩ := h6
 obtain ⟨g1, g2, g3⟩ := rdID_list h7
 refine ⟨?_, ⟨⟨f2, f3⟩, ⟨a2, a4⟩, g3, i64wf' c2, fun y hy => i64wf' (b3 y hy), d2, e2⟩, ⟨b2, g2⟩⟩
 exact cut_eq (cut_eq a1 a3) (cut_eq b1 (cut_eq c1 (cut_eq d1 (cut_eq e1 (cut_eq f1 g1)))))
theorem ER.ext {w w' : World} {e : Ev} (h : ER w e) (x : Ext w w') : ER w' e := ⟨h.dv.ext x, h.rv.ext x⟩

def lowB (c : Int) : Bool := (decide (97 ≤ c) && decide (c ≤ 122)) || (decide (48 ≤ c) && decide (c ≤ 57))
theorem lowB_iff {c : Int} : lowB c = true ↔ (97 ≤ c ∧ c ≤ 122) ∨ (48 ≤ c ∧ c ≤ 57) := by simp [lowB]
inductive RK | word | inside | second | dashes
 deriving DecidableEq
abbrev RQ := RK × Nat
def wstep (n : Nat) (c : Int) : Option RQ := if lowB c = true then some (.inside, n) else none
def rstep : RQ → Int → Option RQ
 | (.word, n), c => wstep n c
 | (.inside, n), c => if c = 47 ∧ 0 < n then some (.word, n - 1) else if c = 46 then some (.word, n) else if c = 95 then some (.second, n) else if c = 45 then some (.dashes, n) else wstep n c
 | (.second, n), c => if c = 95 then some (.word, n) else wstep n c
 | (.dashes, n), c => if c = 45 then some (.dashes, n) else wstep n c
theorem wstep_ascii {n : Nat} {c : Int} {q : RQ} (h : wstep n c = some q) : 0 ≤ c ∧ c < 128 := by
 unfold wstep at h
 split at h
 ·rename_i hl; have := lowB_iff.1 hl; omega
 ·cases h
theorem rstep_ascii {q q' : RQ} {c : Int} (h : rstep q c = some q') : 0 ≤ c ∧ c < 128 := by
 obtain ⟨k, n⟩ := q
 cases k <;> simp only [rstep] at h
 ·exact wstep_ascii h
 ·split at h
  ·omega
  ·split at h
   ·omega
   ·split at h
    ·omega
    ·split at h
     ·omega
     ·exact wstep_ascii h
 ·split at h
  ·omega
  ·exact wstep_ascii h
 ·split at h
  ·omega
  ·exact wstep_ascii h

def lastB (L : List Int) : Int := L.getLast?.getD 47
def aheadB (L : List Int) : Int := L.dropLast.getLast?.getD 47
def slashes (L : List Int) : Nat := L.countP (fun c => decide (c = 47))
theorem lastB_snoc (L : List Int) (c : Int) : lastB (L ++ [c]) = c := by simp [lastB]
theorem aheadB_snoc (L : List Int) (c : Int) : aheadB (L ++ [c]) = lastB L := by simp [lastB, aheadB]
theorem slashes_snoc (L : List Int) (c : Int) : slashes (L ++ [c]) = slashes L + (if c = 47 then 1 else 0) := by
 simp only [slashes, List.countP_append, List.countP_cons, List.countP_nil, decide_eq_true_eq, Nat.zero_add]
def goesB (L : List Int) (c : Int) : Bool :=
 if lowB c = true then true
 else if lastB L = 47 ∨ lastB L = 46 then false
 else if lowB (lastB L) = true then decide (c = 46 ∨ c = 95 ∨ c = 45 ∨ c = 47)
 else if lastB L = 95 then decide (c = 95 ∧ aheadB L ≠ 95)
 else decide (c = 45)
def RRel (L : List Int) (q : RQ) : Prop := q.2 + slashes L = 7 ∧ match q.1 with
 | .word => lastB L = 47 ∨ lastB L = 46 ∨ (lastB L = 95 ∧ aheadB L = 95)
 | .inside => lowB (lastB L) = true
 | .second => lastB L = 95 ∧ aheadB L ≠ 95
 | .dashes => lastB L = 45
theorem rrel_nil : RRel [] (.word, 7) := ⟨rfl, .inl rfl⟩
theorem RRel.ends {L : List Int} {q : RQ} (h : RRel L q) : decide (q.1 = .inside) = lowB (lastB L) := by
 obtain ⟨k, n⟩ := q
 obtain ⟨_, h⟩ := h
 cases k <;> simp only at h
 ·rcases h with h | h | ⟨h, _⟩ <;> rw [h] <;> rfl
 ·rw [h]; rfl
 ·rw [h.1]; rfl
 ·rw [h]; rfl
theorem RRel.step {L : List Int} {q : RQ} (h : RRel L q) (c : Int) :
  (rstep q c).isSome = (goesB L c && decide (1 + slashes (L ++ [c]) ≤ 8)) ∧ ∀ q', rstep q c = some q' → RRel (L ++ [c]) q' := by
 obtain ⟨k, n⟩ := q
 obtain ⟨hn, h⟩ := h
 simp only at hn h
 have hs := slashes_snoc L c
 by_cases hl : lowB c = true
 ·have hc := lowB_iff.1 hl
  have e47 : c ≠ 47 := by omega
  have hw : rstep (k, n) c = some (.inside, n) := by
   cases k <;> simp only [rstep, wstep, if_pos hl]
   ·rw [if_neg (by omega), if_neg (by omega), if_neg (by omega), if_neg (by omega)]
   ·rw [if_neg (by omega)]
   ·rw [if_neg (by omega)]
  rw [hw]
  refine ⟨?_, ?_⟩
  ·rw [hs, if_neg e47]
   simp only [goesB, if_pos hl, Option.isSome_some, Bool.true_and]
   exact (decide_eq_true (by omega)).symm
  ·rintro q' he
   cases he
   refine ⟨?_, ?_⟩
   ·simp only [hs, if_neg e47]; omega
   ·simp only [lastB_snoc]; exact hl
 ·have hw : ∀ n, wstep n c = none := fun n => by simp only [wstep, if_neg hl]
  have hnl : ∀ {x : Int}, x = 47 ∨ x = 46 ∨ x = 95 ∨ x = 45 → lowB x = false := by
   rintro x (rfl | rfl | rfl | rfl) <;> decide
  cases k
  ·simp only [rstep, hw]
   refine ⟨?_, fun q' he => by cases he⟩
   have : goesB L c = false := by
    simp only [goesB, if_neg hl]
    rcases h with h | h | ⟨h, h'⟩
    ·rw [if_pos (.inl h)]
    ·rw [if_pos (.inr h)]
    ·rw [if_neg (by omega), if_neg (by rw [hnl (.inr (.inr (.inl h)))]; simp), if_pos h]
     simp [h']
   rw [this]; rfl
  ·simp only at h
   have hb : goesB L c = decide (c = 46 ∨ c = 95 ∨ c = 45 ∨ c = 47) := by
    simp only [goesB, if_neg hl]
    rw [if_neg (by
     rintro (e | e)
     ·rw [hnl (.inl e)] at h; cases h
     ·rw [hnl (.inr (.inl e))] at h; cases h), if_pos h]
   rw [hb]
   simp only [rstep, hw]
   by_cases e1 : c = 47
   ·subst e1
    rw [if_pos rfl] at hs
    by_cases h0 : 0 < n
    ·rw [if_pos ⟨rfl, h0⟩]
     refine ⟨?_, ?_⟩
     ·rw [decide_eq_true (show 1 + slashes (L ++ [47]) ≤ 8 by omega)]; rfl
     ·rintro q' he
      cases he
      exact ⟨by simp only [hs]; omega, by simp only [lastB_snoc]; exact .inl trivial⟩
    ·rw [if_neg (by omega), if_neg (by omega), if_neg (by omega), if_neg (by omega)]
     refine ⟨?_, fun q' he => by cases he⟩
     rw [decide_eq_false (show ¬ (1 + slashes (L ++ [47]) ≤ 8) by omega), Bool.and_false]; rfl
   ·rw [if_neg (by omega)]
    rw [if_neg e1] at hs
    have hd : decide (1 + slashes (L ++ [c]) ≤ 8) = true := decide_eq_true (by omega)
    rw [hd, Bool.and_true]
    by_cases e2 : c = 46
    ·subst e2
     rw [if_pos rfl]
     refine ⟨rfl, ?_⟩
     rintro q' he
     cases he
     exact ⟨by simp only [hs]; omega, by simp only [lastB_snoc]; exact .inr (.inl trivial)⟩
    ·rw [if_neg e2]
     by_cases e3 : c = 95
     ·subst e3
      rw [if_pos rfl]
      refine ⟨rfl, ?_⟩
      rintro q' he
      cases he
      refine ⟨by simp only [hs]; omega, ?_⟩
      simp only [lastB_snoc, aheadB_snoc]
      exact ⟨trivial, fun e => by rw [e] at h; exact absurd h (by decide)⟩
     ·rw [if_neg e3]
      by_cases e4 : c = 45
      ·subst e4
       rw [if_pos rfl]
       refine ⟨rfl, ?_⟩
       rintro q' he
       cases he
       exact ⟨by simp only [hs]; omega, by simp only [lastB_snoc]⟩
      ·rw [if_neg e4]
       exact ⟨(decide_eq_false (by omega)).symm, fun q' he => by cases he⟩
  ·obtain ⟨h1, h2⟩ := h
   have hb : goesB L c = decide (c = 95 ∧ aheadB L ≠ 95) := by
    simp only [goesB, if_neg hl]
    rw [if_neg (by omega), if_neg (by rw [hnl (.inr (.inr (.inl h1)))]; simp), if_pos h1]
   rw [hb]
   simp only [rstep, hw]
   by_cases e3 : c = 95
   ·subst e3
    rw [if_neg (by decide)] at hs
    rw [if_pos rfl]
    refine ⟨?_, ?_⟩
    ·rw [decide_eq_true (⟨rfl, h2⟩ : (95 : Int) = 95 ∧ aheadB L ≠ 95)]
     simp; omega
    ·rintro q' he
     cases he
     refine ⟨by simp only [hs]; omega, ?_⟩
     simp only [lastB_snoc, aheadB_snoc]
     exact .inr (.inr ⟨trivial, h1⟩)
   ·rw [if_neg e3]
    refine ⟨?_, fun q' he => by cases he⟩
    rw [decide_eq_false (by omega)]; rfl
  ·simp only at h
   have hb : goesB L c = decide (c = 45) := by
    simp only [goesB, if_neg hl]
    rw [if_neg (by omega), if_neg (by rw [hnl (.inr (.inr (.inr h)))]; simp), if_neg (by omega)]
   rw [hb]
   simp only [rstep, hw]
   by_cases e4 : c = 45
   ·subst e4
    rw [if_neg (by decide)] at hs
    rw [if_pos rfl]
    refine ⟨?_, ?_⟩
    ·simp; omega
    ·rintro q' he
     cases he
     exact ⟨by simp only [hs]; omega, by simp only [lastB_snoc]⟩
   ·rw [if_neg e4]
    refine ⟨?_, fun q' he => by cases he⟩
    rw [decide_eq_false e4]; rfl
def rfold : List Int → Option RQ := List.foldlM rstep (.word, 7)
theorem rfold_snoc (L : List Int) (c : Int) : rfold (L ++ [c]) = (rfold L).bind (rstep · c) := by
 simp only [rfold, List.foldlM_append, List.foldlM_cons, List.foldlM_nil]
 cases L.foldlM rstep (RK.word, 7) with
 | none => rfl
 | some q => simp only [Option.bind_eq_bind, Option.bind_some]; cases rstep q c <;> rfl
theorem rfold_rel {L : List Int} {q : RQ} (h : rfold L = some q) : RRel L q := by
 have key : ∀ (n : Nat) (L : List Int) (q : RQ), L.length = n → rfold L = some q → RRel L q := by
  intro n
  induction n with
  | zero =>
   intro L q hn h
   have : L = [] := List.eq_nil_of_length_eq_zero hn
   subst this
   cases h; exact rrel_nil
  | succ n ih =>
   intro L q hn h
   rcases List.eq_nil_or_concat L with rfl | ⟨L', c, rfl⟩
   ·cases hn
   rw [List.concat_eq_append] at h hn ⊢
   rw [rfold_snoc] at h
   cases hL : rfold L' with
   | none => rw [hL] at h; cases h
   | some p => rw [hL] at h; exact ((ih L' p (by simpa using hn) hL).step c).2 q h
 exact key _ L q rfl h
theorem rfold_take {L : List Int} {p k : Nat} {q : RQ} (h : rfold (L.take p) = some q) (hk : k ≤ p) : ∃ q', rfold (L.take k) = some q' := by
 rw [show p = k + (p - k) by omega, List.take_add] at h
 simp only [rfold, List.foldlM_append] at h ⊢
 cases hf : List.foldlM rstep (RK.word, 7) (L.take k) with
 | none => rw [hf] at h; cases h
 | some q' => exact ⟨q', rfl⟩
def badAt (L : List Int) : Option Nat := (List.range L.length).find? fun p => (rfold (L.take (p + 1))).isNone
theorem rfold_take_succ {L : List Int} {p : Nat} (hp : p < L.length) : rfold (L.take (p + 1)) = (rfold (L.take p)).bind (rstep · L[p]) := by
 rw [List.take_succ_eq_append_getElem hp, rfold_snoc]
theorem badAt_some {L : List Int} {p : Nat} {q : RQ} (hp : p < L.length) (h : rfold (L.take p) = some q) (h2 : rstep q L[p] = none) : badAt L = some p := by
 unfold badAt
 rw [List.find?_range_eq_some]
 refine ⟨?_, by simpa using hp, fun k hk => ?_⟩
 ·rw [rfold_take_succ hp, h]; simp [h2]
 ·obtain ⟨q', hq⟩ := rfold_take h (show k + 1 ≤ p by omega)
  rw [hq]; rfl
theorem badAt_none {L : List Int} {q : RQ} (h : rfold L = some q) : badAt L = none := by
 unfold badAt
 rw [List.find?_eq_none]
 intro k hk
 have h' : rfold (L.take L.length) = some q := by rw [List.take_length]; exact h
 obtain ⟨q', hq⟩ := rfold_take h' (show k + 1 ≤ L.length by have := List.mem_range.1 hk; omega)
 rw [hq]; simp
def repoF (L : List Int) : Int × Int := if 128 < L.length then (4, 128) else match badAt L with
 | some p => (7, p)
 | none => if lowB (lastB L) = true then (0, 0) else (7, L.length)
theorem repoF_long {L : List Int} (h : 128 < L.length) : repoF L = (4, 128) := if_pos h
theorem repoF_bad {L : List Int} {p : Nat} {q : RQ} (hl : ¬ 128 < L.length) (hp : p < L.length) (h : rfold (L.take p) = some q) (h2 : rstep q L[p] = none) : repoF L = (7, (p : Int)) := by
 unfold repoF; rw [if_neg hl, badAt_some hp h h2]
theorem repoF_end {L : List Int} {q : RQ} (hl : ¬ 128 < L.length) (h : rfold L = some q) : repoF L = if q.1 = .inside then (0, 0) else (7, (L.length : Int)) := by
 unfold repoF; rw [if_neg hl, badAt_none h]
 have := (rfold_rel h).ends
 by_cases hq : q.1 = .inside
 ·rw [if_pos hq]; rw [decide_eq_true hq] at this; simp only [← this, if_true]
 ·rw [if_neg hq]; rw [decide_eq_false hq] at this; simp only [← this]; rfl
theorem strI_at {s : ByteArray} {p : Nat} (hp : p < s.size) (hl : p < (strI s).length) : (strI s)[p] = ((s[p]'hp).toNat : Int) := by
 simp only [strI, List.getElem_map, Array.getElem_toList]
 rfl
theorem rune_step {s : ByteArray} {p : Nat} (hp : p < s.size) (hl : p < (strI s).length) (q : RQ) : rstep q ((Utf8.decode s p).1 : Int) = rstep q (strI s)[p] := by
 rw [strI_at hp hl]
 by_cases h : (s[p]'hp).toNat < 128
 ·rw [Go.decode_ascii s p hp h]
 ·have h1 := (Go.decode_high s p hp (by omega)).1
  cases e1 : rstep q ((Utf8.decode s p).1 : Int) with
  | some q' => have := rstep_ascii e1; omega
  | none =>
   cases e2 : rstep q ((s[p]'hp).toNat : Int) with
   | some q' => have := rstep_ascii e2; omega
   | none => rfl
theorem rune_one {s : ByteArray} {p : Nat} (hp : p < s.size) (hl : p < (strI s).length) {q q' : RQ} (h : rstep q (strI s)[p] = some q') : Utf8.decode s p = ((s[p]'hp).toNat, 1) := by
 rw [strI_at hp hl] at h
 have := rstep_ascii h
 exact Go.decode_ascii s p hp (by omega)

def nxF : RK → Nat
 | .word => n_name_repo_word
 | .inside => n_name_repo_inside
 | .second => n_name_repo_second
 | .dashes => n_name_repo_dashes
abbrev rpV (n : Nat) : Value := .agg ⟨[.int .i64 (n : Int)]⟩
def stN (q : RQ) : List Value := [.func (.func (nxF q.1)) ⟨[rpV q.2]⟩ ⟨[]⟩, .bool (decide (q.1 = .inside))]
abbrev pN (g : Nat) (q : RQ) : SP := pt g t_name_state (stN q)
section
variable {b : World} {F : List SP}
theorem nword_S {c : Int} : SC Tryz.prog n_name_letter_word [.int .i32 c] b F (fun v F' => v = .bool (lowB c) ∧ F' = F) := by
 refine enterS F_name_letter_word rfl rfl rfl ?_
 (refine sw_seq (sw_region ?_); refine so_1 rfl ?_; refine so_nil (sn_then ?_); refine sw_seq (sw_region ?_); (iterate 3 refine so_1 rfl ?_))
 refine so_if 5 rfl (fun h1 => ?_) (fun h1 => ?_)
 ·((iterate 4 refine so_1 rfl ?_))
  refine so_if 9 rfl (fun h2 => ?_) (fun h2 => ?_)
  ·((iterate 8 refine so_1 rfl ?_); refine so_nil (sn_then ?_); refine sw_ret ?_)
   refine sn_ret rfl (.tmp rfl .nil) (Ent.refl _) ?_
   exact ⟨congrArg Value.bool (by rw [lowB_iff.2 (by omega)]), rfl⟩
  ·((iterate 3 refine so_1 rfl ?_))
   refine so_if 12 rfl (fun h3 => ?_) (fun h3 => ?_)
   ·((iterate 5 refine so_1 rfl ?_); refine so_nil (sn_then ?_); refine sw_ret ?_)
    refine sn_ret rfl (.tmp rfl .nil) (Ent.refl _) ?_
    exact ⟨congrArg Value.bool (by rw [Bool.eq_iff_iff, lowB_iff]; simp only [decide_eq_true_eq, reduceCtorEq, false_iff]; omega), rfl⟩
   ·omega
 ·((iterate 7 refine so_1 rfl ?_))
  refine so_if 12 rfl (fun h3 => ?_) (fun h3 => ?_)
  ·((iterate 5 refine so_1 rfl ?_); refine so_nil (sn_then ?_); refine sw_ret ?_)
   refine sn_ret rfl (.tmp rfl .nil) (Ent.refl _) ?_
   exact ⟨congrArg Value.bool (by rw [Bool.eq_iff_iff, lowB_iff]; simp only [decide_eq_true_eq, reduceCtorEq, false_iff]; omega), rfl⟩
  ·((iterate 5 refine so_1 rfl ?_); refine so_nil (sn_then ?_); refine sw_ret ?_)
   refine sn_ret rfl (.tmp rfl .nil) (Ent.refl _) ?_
   exact ⟨congrArg Value.bool (by rw [Bool.eq_iff_iff, lowB_iff]; simp only [decide_eq_true_eq, reduceCtorEq, false_iff]; omega), rfl⟩
theorem npart_S {n : Nat} {x : Int} (hx : x = n) : SC Tryz.prog n_name_repo_part [.agg ⟨[.int .i64 x]⟩] b F (fun v F' => ∃ g, v = .pointer (some ⟨g, 0, none⟩) ∧ F' = pN g (.word, n) :: F) := by
 subst hx
 refine enterS F_name_repo_part rfl rfl rfl ?_
 (refine sw_seq (sw_region ?_))
 refine so_box rfl rfl rfl rfl rfl fun g1 => ?_
 (refine so_1 rfl ?_; refine so_nil (sn_then ?_); refine sw_seq (sw_region ?_); refine so_l 0 rfl rfl rfl ?_; (iterate 2 refine so_1 rfl ?_))
 refine so_box rfl rfl rfl rfl rfl fun g2 => ?_
 (refine so_1 rfl ?_; refine so_nil (sn_then ?_); refine sw_ret ?_)
 refine sn_ret rfl (.tmp rfl .nil) (ent_keep 2 [0] rfl rfl) ?_
 exact ⟨g2, rfl, rfl⟩
def NxR (F : List SP) (o : Option RQ) (v : Value) (F' : List SP) : Prop := match o with
 | some q => ∃ g, v = .pointer (some ⟨g, 0, none⟩) ∧ F' = pN g q :: F
 | none => v = .pointer none ∧ F' = F
theorem nwordS_S {n : Nat} {c : Int} : SC Tryz.prog n_name_repo_word [rpV n, .int .i32 c] b F (NxR F (rstep (.word, n) c)) := by
 refine enterS F_name_repo_word rfl rfl rfl ?_
 (refine sw_seq (sw_region ?_))
 refine so_box rfl rfl rfl rfl rfl fun g1 => ?_
 (refine so_1 rfl ?_; refine so_nil (sn_then ?_); (iterate 2 refine sw_seq ?_); refine sw_region ?_; refine so_1 rfl ?_)
 refine so_callE rfl rfl rfl (nword_S) ?_
 (refine so_nil (sn_then ?_))
 by_cases h : lowB c = true
 ·simp only [h]
  (refine sw_cond_t rfl ?_; refine sw_seq (sw_region ?_); refine so_l 0 rfl rfl rfl ?_; (iterate 2 refine so_1 rfl ?_))
  refine so_box rfl rfl rfl rfl rfl fun g2 => ?_
  (refine so_1 rfl ?_; refine so_nil (sn_then ?_); refine sw_ret ?_; refine sn_then_ret ?_)
  refine sn_ret rfl (.tmp rfl .nil) (ent_keep 2 [0] rfl rfl) ?_
  simp only [rstep, wstep, if_pos h]
  exact ⟨g2, rfl, rfl⟩
 ·have h' : lowB c = false := by simpa using h
  simp only [h']
  (refine sw_cond_f rfl ?_; refine sw_skip ?_; refine sn_then ?_; refine sw_seq (sw_region ?_); refine so_1 rfl ?_; refine so_nil (sn_then ?_); refine sw_ret ?_)
  refine sn_ret rfl (.tmp rfl .nil) (ent_keep 1 [] rfl rfl) ?_
  simp only [rstep, wstep, if_neg h]
  exact ⟨rfl, rfl⟩
theorem NxR.drop {A : SP} {F : List SP} {o : Option RQ} {v : Value} {F' : List SP} (h : NxR (A :: F) o v F') : ∃ G, Ent F' G ∧ NxR F o v G := by
 cases o with
 | none => obtain ⟨h1, rfl⟩ := h; exact ⟨F, ent_keep 1 [] rfl rfl, h1, rfl⟩
 | some q => obtain ⟨g, h1, rfl⟩ := h; exact ⟨pN g q :: F, ent_keep 2 [0] rfl rfl, g, h1, rfl⟩
theorem nsecond_S {n : Nat} {c : Int} : SC Tryz.prog n_name_repo_second [rpV n, .int .i32 c] b F (NxR F (rstep (.second, n) c)) := by
 refine enterS F_name_repo_second rfl rfl rfl ?_
 (refine sw_seq (sw_region ?_))
 refine so_box rfl rfl rfl rfl rfl fun g1 => ?_
 (refine so_1 rfl ?_; refine so_nil (sn_then ?_); (iterate 2 refine sw_seq ?_); refine sw_region ?_; (iterate 2 refine so_1 rfl ?_); refine so_nil (sn_then ?_))
 refine sw_if rfl (fun h => ?_) (fun h => ?_)
 ·(refine sw_seq (sw_region ?_); refine so_l 0 rfl rfl rfl ?_; (iterate 2 refine so_1 rfl ?_))
  refine so_box rfl rfl rfl rfl rfl fun g2 => ?_
  (refine so_1 rfl ?_; refine so_nil (sn_then ?_); refine sw_ret ?_; refine sn_then_ret ?_)
  refine sn_ret rfl (.tmp rfl .nil) (ent_keep 2 [0] rfl rfl) ?_
  simp only [rstep, if_pos h]
  exact ⟨g2, rfl, rfl⟩
 ·(refine sw_skip ?_; refine sn_then ?_; refine sw_seq (sw_region ?_); refine so_l 0 rfl rfl rfl ?_; refine so_1 rfl ?_)
  refine so_call rfl rfl rfl (nwordS_S) ?_
  rintro v F' hR
  obtain ⟨G, hG, hR'⟩ := hR.drop
  (refine so_1 rfl ?_; refine so_nil (sn_then ?_); refine sw_ret ?_)
  refine sn_ret rfl (.tmp rfl .nil) (hG) ?_
  simp only [rstep, if_neg h]
  exact hR'
theorem ndashes_S {n : Nat} {c : Int} : SC Tryz.prog n_name_repo_dashes [rpV n, .int .i32 c] b F (NxR F (rstep (.dashes, n) c)) := by
 refine enterS F_name_repo_dashes rfl rfl rfl ?_
 (refine sw_seq (sw_region ?_))
 refine so_box rfl rfl rfl rfl rfl fun g1 => ?_
 (refine so_1 rfl ?_; refine so_nil (sn_then ?_); (iterate 2 refine sw_seq ?_); refine sw_region ?_; (iterate 2 refine so_1 rfl ?_); refine so_nil (sn_then ?_))
 refine sw_if rfl (fun h => ?_) (fun h => ?_)
 ·(refine sw_seq (sw_region ?_); refine so_l 0 rfl rfl rfl ?_; (iterate 2 refine so_1 rfl ?_))
  refine so_box rfl rfl rfl rfl rfl fun g2 => ?_
  (refine so_1 rfl ?_; refine so_nil (sn_then ?_); refine sw_ret ?_; refine sn_then_ret ?_)
  refine sn_ret rfl (.tmp rfl .nil) (ent_keep 2 [0] rfl rfl) ?_
  simp only [rstep, if_pos h]
  exact ⟨g2, rfl, rfl⟩
 ·(refine sw_skip ?_; refine sn_then ?_; refine sw_seq (sw_region ?_); refine so_l 0 rfl rfl rfl ?_; refine so_1 rfl ?_)
  refine so_call rfl rfl rfl (nwordS_S) ?_
  rintro v F' hR
  obtain ⟨G, hG, hR'⟩ := hR.drop
  (refine so_1 rfl ?_; refine so_nil (sn_then ?_); refine sw_ret ?_)
  refine sn_ret rfl (.tmp rfl .nil) (hG) ?_
  simp only [rstep, if_neg h]
  exact hR'
theorem ninside_S {n : Nat} {c : Int} (h7 : n ≤ 7) : SC Tryz.prog n_name_repo_inside [rpV n, .int .i32 c] b F (NxR F (rstep (.inside, n) c)) := by
 refine enterS F_name_repo_inside rfl rfl rfl ?_
 (refine sw_seq (sw_region ?_))
 refine so_box rfl rfl rfl rfl rfl fun g1 => ?_
 (refine so_1 rfl ?_; refine so_nil (sn_then ?_); refine sw_seq ?_; refine sw_block ?_; refine sw_seq (sw_region ?_); (iterate 3 refine so_1 rfl ?_))
 refine so_if 8 rfl (fun h1 => ?_) (fun h1 => ?_)
 ·(refine so_1 rfl ?_; refine so_l 0 rfl rfl rfl ?_; (iterate 3 refine so_1 rfl ?_); refine so_nil (sn_then ?_))
  refine sw_if rfl (fun h2 => ?_) (fun h2 => ?_)
  ·(refine sw_seq (sw_region ?_); refine so_1 rfl ?_; refine so_l 0 rfl rfl rfl ?_; refine so_2 rfl (by (unfold I64; omega)) ?_; refine so_1 rfl ?_)
   have hn : 0 < n := by omega
   refine so_call rfl rfl rfl (npart_S (n := n - 1) (by omega)) ?_
   rintro v F' ⟨g, rfl, rfl⟩
   (refine so_1 rfl ?_; refine so_nil (sn_then ?_); refine sw_ret ?_; refine sn_block_ret ?_; refine sn_then_ret ?_)
   refine sn_ret rfl (.tmp rfl .nil) (ent_keep 2 [0] rfl rfl) ?_
   simp only [rstep, if_pos (⟨h1, hn⟩ : c = 47 ∧ 0 < n)]
   exact ⟨g, rfl, rfl⟩
  ·have hn : ¬ (c = 47 ∧ 0 < n) := by omega
   (refine sw_seq (sw_region ?_); (iterate 3 refine so_1 rfl ?_); refine so_nil (sn_then ?_))
   refine sw_if rfl (fun h => absurd h (by omega)) (fun h3 => ?_)
   (refine sw_seq (sw_region ?_); (iterate 3 refine so_1 rfl ?_); refine so_nil (sn_then ?_))
   refine sw_if rfl (fun h => absurd h (by omega)) (fun h4 => ?_)
   (refine sw_seq (sw_region ?_); (iterate 3 refine so_1 rfl ?_); refine so_nil (sn_then ?_))
   refine sw_if rfl (fun h => absurd h (by omega)) (fun h5 => ?_)
   (refine sw_skip ?_; refine sn_block ?_; refine sn_then ?_; refine sw_seq (sw_region ?_); refine so_l 0 rfl rfl rfl ?_; refine so_1 rfl ?_)
   refine so_call rfl rfl rfl (nwordS_S) ?_
   rintro v F' hR
   obtain ⟨G, hG, hR'⟩ := hR.drop
   (refine so_1 rfl ?_; refine so_nil (sn_then ?_); refine sw_ret ?_)
   refine sn_ret rfl (.tmp rfl .nil) (hG) ?_
   simp only [rstep, if_neg hn, if_neg h3, if_neg h4, if_neg h5]
   exact hR'
 ·have hn : ¬ (c = 47 ∧ 0 < n) := by omega
  ((iterate 5 refine so_1 rfl ?_); refine so_nil (sn_then ?_); refine sw_cond_f rfl ?_; refine sw_seq (sw_region ?_); (iterate 3 refine so_1 rfl ?_); refine so_nil (sn_then ?_))
  refine sw_if rfl (fun h3 => ?_) (fun h3 => ?_)
  ·(refine sw_seq (sw_region ?_); refine so_l 0 rfl rfl rfl ?_; (iterate 2 refine so_1 rfl ?_))
   refine so_box rfl rfl rfl rfl rfl fun g2 => ?_
   (refine so_1 rfl ?_; refine so_nil (sn_then ?_); refine sw_ret ?_; refine sn_block_ret ?_; refine sn_then_ret ?_)
   refine sn_ret rfl (.tmp rfl .nil) (ent_keep 2 [0] rfl rfl) ?_
   simp only [rstep, if_neg hn, if_pos h3]
   exact ⟨g2, rfl, rfl⟩
  (refine sw_seq (sw_region ?_); (iterate 3 refine so_1 rfl ?_); refine so_nil (sn_then ?_))
  refine sw_if rfl (fun h4 => ?_) (fun h4 => ?_)
  ·(refine sw_seq (sw_region ?_); refine so_l 0 rfl rfl rfl ?_; (iterate 2 refine so_1 rfl ?_))
   refine so_box rfl rfl rfl rfl rfl fun g2 => ?_
   (refine so_1 rfl ?_; refine so_nil (sn_then ?_); refine sw_ret ?_; refine sn_block_ret ?_; refine sn_then_ret ?_)
   refine sn_ret rfl (.tmp rfl .nil) (ent_keep 2 [0] rfl rfl) ?_
   simp only [rstep, if_neg hn, if_neg h3, if_pos h4]
   exact ⟨g2, rfl, rfl⟩
  (refine sw_seq (sw_region ?_); (iterate 3 refine so_1 rfl ?_); refine so_nil (sn_then ?_))
  refine sw_if rfl (fun h5 => ?_) (fun h5 => ?_)
  ·(refine sw_seq (sw_region ?_); refine so_l 0 rfl rfl rfl ?_; (iterate 2 refine so_1 rfl ?_))
   refine so_box rfl rfl rfl rfl rfl fun g2 => ?_
   (refine so_1 rfl ?_; refine so_nil (sn_then ?_); refine sw_ret ?_; refine sn_block_ret ?_; refine sn_then_ret ?_)
   refine sn_ret rfl (.tmp rfl .nil) (ent_keep 2 [0] rfl rfl) ?_
   simp only [rstep, if_neg hn, if_neg h3, if_neg h4, if_pos h5]
   exact ⟨g2, rfl, rfl⟩
  (refine sw_skip ?_; refine sn_block ?_; refine sn_then ?_; refine sw_seq (sw_region ?_); refine so_l 0 rfl rfl rfl ?_; refine so_1 rfl ?_)
  refine so_call rfl rfl rfl (nwordS_S) ?_
  rintro v F' hR
  obtain ⟨G, hG, hR'⟩ := hR.drop
  (refine so_1 rfl ?_; refine so_nil (sn_then ?_); refine sw_ret ?_)
  refine sn_ret rfl (.tmp rfl .nil) (hG) ?_
  simp only [rstep, if_neg hn, if_neg h3, if_neg h4, if_neg h5]
  exact hR'
theorem nx_S {q : RQ} {c : Int} (h7 : q.2 ≤ 7) : SC Tryz.prog (nxF q.1) [rpV q.2, .int .i32 c] b F (NxR F (rstep q c)) := by
 obtain ⟨k, n⟩ := q
 cases k
 ·exact nwordS_S
 ·exact ninside_S h7
 ·exact nsecond_S
 ·exact ndashes_S
instance nx_bodied (q : RQ) : Bodied Tryz.prog (nxF q.1) := by
 obtain ⟨k, n⟩ := q
 cases k <;> (dsimp only [nxF]; infer_instance)
end

abbrev ftV (f : Int × Int) : Value := .agg ⟨[.int .i64 f.1, .int .i64 f.2]⟩
section
variable {b : World} {F : List SP}
theorem nrun_S {s : ByteArray} {g : Nat} (hl : ¬ 128 < (strI s).length) : SC Tryz.prog n_name_run [.string s, .pointer (some ⟨g, 0, none⟩), .int .i64 7] b (pN g (.word, 7) :: F) (fun v F' => v = ftV (repoF (strI s)) ∧ F' = F) := by
 have hsz := strI_length s
 refine enterS F_name_run rfl rfl rfl ?_
 (refine sw_seq (sw_region ?_))
 refine so_new rfl rfl rfl rfl rfl fun g6 => ?_
 (refine so_nil (sn_then ?_); (iterate 2 refine sw_seq ?_); refine sw_region ?_; refine so_1 rfl ?_)
 refine so_rangeS rfl rfl rfl rfl rfl rfl fun gi => ?_
 (refine so_nil (sn_then ?_); refine sw_block ?_)
 refine sw_loop (S := Nat × RQ × Nat) (fun s' => [(0, .string s), (1, .pointer (some ⟨s'.2.2, 0, none⟩)), (2, .int .i64 7), (6, .pointer (some ⟨g6, 0, none⟩)), (10, .pointer (some ⟨gi, 0, none⟩))]) (fun s' => ob gi (.stringIter s s'.1) :: pN s'.2.2 s'.2.1 :: pt g6 t_api_Fault [.int .i64 0, .int .i64 0] :: F)
  (fun s' => s'.1 ≤ s.size ∧ rfold ((strI s).take s'.1) = some s'.2.1) (fun s' => s.size - s'.1) (0, (.word, 7), g) ⟨rfl, rfl, rfl, rfl, rfl, trivial⟩ (ent_keep 3 [0, 2, 1] rfl rfl) ⟨Nat.zero_le _, rfl⟩ ?_
 rintro ⟨p, q, gq⟩ ⟨hp, hq⟩
 dsimp only at hp hq ⊢
 (refine sw_seq (sw_region ?_))
 by_cases hlt : p < s.size
 ·have hpl : p < (strI s).length := by omega
  have h7 : q.2 ≤ 7 := by have := (rfold_rel hq).1; omega
  have hstep := rune_step hlt hpl q
  refine so_nextS 0 rfl rfl rfl rfl rfl hlt rfl ?_
  (refine so_1 rfl ?_; refine so_nil (sn_then ?_); refine sw_seq ?_; refine sw_cond_t rfl ?_; refine sw_skip ?_; refine sn_then ?_; refine sw_block ?_; refine sw_seq (sw_region ?_); (iterate 4 refine so_1 rfl ?_); refine so_nil (sn_then ?_); refine sw_seq (sw_region ?_); (iterate 3 refine so_1 rfl ?_); refine so_l 1 rfl rfl rfl ?_; refine so_1 rfl ?_)
  refine so_call rfl rfl rfl (nx_S h7) ?_
  rintro v F' hR
  rw [hstep] at hR
  cases hr : rstep q (strI s)[p] with
  | none =>
   rw [hr] at hR
   obtain ⟨rfl, rfl⟩ := hR
   (refine so_1 rfl ?_; refine so_nil (sn_then ?_); refine sw_seq (sw_region ?_); (iterate 2 refine so_1 rfl ?_); refine so_nil (sn_then ?_); refine sw_cond_t rfl ?_; refine sw_seq (sw_region ?_); (iterate 3 refine so_1 rfl ?_); refine so_s1 2 rfl rfl rfl rfl ?_; refine so_nil (sn_then ?_); refine sw_ret ?_; refine sn_block_ret ?_; refine sn_loop_ret ?_; refine sn_block_ret ?_; refine sn_then_ret ?_)
   refine sn_ret rfl (.agg 2 rfl rfl rfl rfl rfl .nil) (ent_keep 3 [] rfl rfl) ?_
   exact ⟨by rw [repoF_bad hl hpl hq hr]; rfl, rfl⟩
  | some q' =>
   rw [hr] at hR
   obtain ⟨g', rfl, rfl⟩ := hR
   have h1 := rune_one hlt hpl hr
   (refine so_1 rfl ?_; refine so_nil (sn_then ?_); refine sw_seq (sw_region ?_); (iterate 2 refine so_1 rfl ?_); refine so_nil (sn_then ?_); refine sw_cond_f rfl ?_; refine sw_skip ?_; refine sn_block ?_)
   refine sn_round (p + 1, q', g') ⟨rfl, rfl, rfl, rfl, rfl, trivial⟩ ?_ ⟨hlt, ?_⟩ (by dsimp only; omega)
   ·rw [h1]
    exact ent_keep 4 [1, 0, 3] rfl rfl
   ·rw [rfold_take_succ hpl, hq]; exact hr
 ·refine so_nextSE 0 rfl rfl rfl rfl rfl (by omega) ?_
  have hq' : rfold (strI s) = some q := by rw [← hq, List.take_of_length_le (by omega)]
  have he := repoF_end hl hq'
  (refine so_1 rfl ?_; refine so_nil (sn_then ?_); refine sw_seq ?_; refine sw_cond_f rfl ?_; refine sw_exit ?_; refine sn_then_exit ?_; refine sn_loop_exit ?_; refine sn_block_exit ?_; refine sn_then ?_; (iterate 2 refine sw_seq ?_); refine sw_region ?_; (iterate 3 refine so_1 rfl ?_); refine so_l 1 rfl rfl rfl ?_; refine so_1 rfl ?_; refine so_nil (sn_then ?_))
  by_cases hin : q.1 = .inside
  ·refine sw_know 30 (.bool false) rfl (by simp [hin]) ?_
   (refine sw_cond_f rfl ?_; refine sw_skip ?_; refine sn_then ?_; refine sw_seq (sw_region ?_); refine so_1 rfl ?_; refine so_s1 2 rfl rfl rfl rfl ?_; refine so_nil (sn_then ?_); refine sw_ret ?_)
   refine sn_ret rfl (.agg 2 rfl rfl rfl rfl rfl .nil) (ent_keep 3 [] rfl rfl) ?_
   exact ⟨by rw [he, if_pos hin]; rfl, rfl⟩
  ·refine sw_know 30 (.bool true) rfl (by simp [hin]) ?_
   (refine sw_cond_t rfl ?_; refine sw_seq (sw_region ?_); (iterate 4 refine so_1 rfl ?_); refine so_s1 2 rfl rfl rfl rfl ?_; refine so_nil (sn_then ?_); refine sw_ret ?_; refine sn_then_ret ?_)
   refine sn_ret rfl (.agg 2 rfl rfl rfl rfl rfl .nil) (ent_keep 3 [] rfl rfl) ?_
   exact ⟨by rw [he, if_neg hin, hsz]; rfl, rfl⟩
theorem nlong_S {s : ByteArray} {m : Int} : SC Tryz.prog n_name_long [.string s, .int .i64 m] b F (fun v F' => (if m < s.size then v = .tuple ⟨[ftV (4, m), .bool true]⟩ else v = .tuple ⟨[ftV (0, 0), .bool false]⟩) ∧ F' = F) := by
 refine enterS F_name_long rfl rfl rfl ?_
 (refine sw_seq (sw_region ?_))
 refine so_new rfl rfl rfl rfl rfl fun g4 => ?_
 (refine so_1 rfl ?_; refine so_nil (sn_then ?_); (iterate 2 refine sw_seq ?_); refine sw_region ?_; (iterate 4 refine so_1 rfl ?_); refine so_nil (sn_then ?_))
 refine sw_if rfl (fun h => ?_) (fun h => ?_)
 ·(refine sw_seq (sw_region ?_); (iterate 2 refine so_1 rfl ?_); refine so_s1 0 rfl rfl rfl rfl ?_; refine so_1 rfl ?_; refine so_nil (sn_then ?_); refine sw_ret ?_; refine sn_then_ret ?_)
  refine sn_ret rfl (.agg 0 rfl rfl rfl rfl rfl (.tmp rfl .nil)) (ent_keep 1 [] rfl rfl) ?_
  exact ⟨by rw [if_pos (by omega)]; rfl, rfl⟩
 ·(refine sw_skip ?_; refine sn_then ?_; refine sw_seq (sw_region ?_); refine so_1 rfl ?_; refine so_s1 0 rfl rfl rfl rfl ?_; refine so_1 rfl ?_; refine so_nil (sn_then ?_); refine sw_ret ?_)
  refine sn_ret rfl (.agg 0 rfl rfl rfl rfl rfl (.tmp rfl .nil)) (ent_keep 1 [] rfl rfl) ?_
  exact ⟨by rw [if_neg (by omega)]; rfl, rfl⟩
theorem Repo_S {s : ByteArray} : SC Tryz.prog n_name_Repo [.string s] b F (fun v F' => v = ftV (repoF (strI s)) ∧ F' = F) := by
 have hsz := strI_length s
 refine enterS F_name_Repo rfl rfl rfl ?_
 (refine sw_seq (sw_region ?_))
 refine so_new rfl rfl rfl rfl rfl fun g2 => ?_
 (refine so_nil (sn_then ?_); (iterate 2 refine sw_seq ?_); refine sw_region ?_; refine so_1 rfl ?_)
 refine so_call rfl rfl rfl (nlong_S) ?_
 rintro v F' ⟨hv, rfl⟩
 by_cases h : (128 : Int) < s.size
 ·rw [if_pos h] at hv
  subst hv
  ((iterate 3 refine so_1 rfl ?_))
  refine so_new rfl rfl rfl rfl rfl fun g3 => ?_
  (refine so_s1 0 rfl rfl rfl rfl ?_; refine so_1 rfl ?_; refine so_nil (sn_then ?_); refine sw_seq (sw_region ?_); refine so_1 rfl ?_; refine so_nil (sn_then ?_); refine sw_cond_t rfl ?_; refine sw_seq (sw_region ?_); refine so_l 0 rfl rfl rfl ?_; refine so_s1 1 rfl rfl rfl rfl ?_; refine so_nil (sn_then ?_); refine sw_ret ?_; refine sn_then_ret ?_)
  refine sn_ret rfl (.agg 1 rfl rfl rfl rfl rfl .nil) (ent_keep 2 [] rfl rfl) ?_
  exact ⟨by rw [repoF_long (by omega)]; rfl, rfl⟩
 ·rw [if_neg h] at hv
  subst hv
  ((iterate 3 refine so_1 rfl ?_))
  refine so_new rfl rfl rfl rfl rfl fun g3 => ?_
  (refine so_s1 0 rfl rfl rfl rfl ?_; refine so_1 rfl ?_; refine so_nil (sn_then ?_); refine sw_seq (sw_region ?_); refine so_1 rfl ?_; refine so_nil (sn_then ?_); refine sw_cond_f rfl ?_; refine sw_skip ?_; refine sn_then ?_; refine sw_seq (sw_region ?_); (iterate 2 refine so_1 rfl ?_))
  refine so_call rfl rfl rfl (npart_S (n := 7) rfl) ?_
  rintro v F' ⟨g, rfl, rfl⟩
  skip
  refine so_call rfl rfl rfl (nrun_S (by omega)) ?_
  rintro v F' ⟨rfl, rfl⟩
  (refine so_s1 1 rfl rfl rfl rfl ?_; refine so_nil (sn_then ?_); refine sw_ret ?_)
  refine sn_ret rfl (.agg 1 rfl rfl rfl rfl rfl .nil) (ent_keep 2 [] rfl rfl) ?_
  exact ⟨rfl, rfl⟩
end

section
variable {b : World} {F : List SP}
end

def tagC (c : Int) : Bool := lowB c || (decide (65 ≤ c) && decide (c ≤ 90)) || decide (c = 95) || decide (c = 46) || decide (c = 45)
def tOk (i : Nat) (c : Int) : Bool := tagC c && (decide (i ≠ 0) || (decide (c ≠ 46) && decide (c ≠ 45)))
theorem tagC_iff {c : Int} : tagC c = true ↔ (97 ≤ c ∧ c ≤ 122) ∨ (48 ≤ c ∧ c ≤ 57) ∨ (65 ≤ c ∧ c ≤ 90) ∨ c = 95 ∨ c = 46 ∨ c = 45 := by
 simp only [tagC, Bool.or_eq_true, Bool.and_eq_true, decide_eq_true_eq, lowB_iff]; omega
theorem tOk_iff {i : Nat} {c : Int} : tOk i c = true ↔ ((97 ≤ c ∧ c ≤ 122) ∨ (48 ≤ c ∧ c ≤ 57) ∨ (65 ≤ c ∧ c ≤ 90) ∨ c = 95 ∨ c = 46 ∨ c = 45) ∧ (i ≠ 0 ∨ (c ≠ 46 ∧ c ≠ 45)) := by
 simp only [tOk, Bool.and_eq_true, Bool.or_eq_true, tagC_iff, decide_eq_true_eq]
theorem tOk_ascii {i : Nat} {c : Int} (h : tOk i c = true) : 0 ≤ c ∧ c < 128 := by have := tOk_iff.1 h; omega
def tBad (L : List Int) : Option Nat := (List.range L.length).find? fun p => !tOk p (L[p]?.getD 0)
def tGood (L : List Int) (p : Nat) : Prop := ∀ k, k < p → ∀ h : k < L.length, tOk k L[k] = true
theorem tBad_some {L : List Int} {p : Nat} (hp : p < L.length) (h : tGood L p) (h2 : tOk p L[p] = false) : tBad L = some p := by
 unfold tBad
 rw [List.find?_range_eq_some]
 refine ⟨by rw [List.getElem?_eq_getElem hp]; simp [h2], by simpa using hp, fun k hk => ?_⟩
 rw [List.getElem?_eq_getElem (by omega)]
 simp [h k hk (by omega)]
theorem tBad_none {L : List Int} (h : tGood L L.length) : tBad L = none := by
 unfold tBad
 rw [List.find?_eq_none]
 intro k hk
 have hk := List.mem_range.1 hk
 rw [List.getElem?_eq_getElem hk]
 simp [h k hk hk]
def tagF (L : List Int) : Int × Int := if 64 < L.length then (4, 64) else match tBad L with
 | some p => (7, p)
 | none => if L.length = 0 then (7, 0) else (0, 0)
theorem tagF_long {L : List Int} (h : 64 < L.length) : tagF L = (4, 64) := if_pos h
theorem tagF_bad {L : List Int} {p : Nat} (hl : ¬ 64 < L.length) (hp : p < L.length) (h : tGood L p) (h2 : tOk p L[p] = false) : tagF L = (7, (p : Int)) := by
 unfold tagF; rw [if_neg hl, tBad_some hp h h2]
theorem tagF_end {L : List Int} (hl : ¬ 64 < L.length) (h : tGood L L.length) : tagF L = if L.length = 0 then (7, 0) else (0, 0) := by
 unfold tagF; rw [if_neg hl, tBad_none h]
theorem tGood.step {L : List Int} {p : Nat} (h : tGood L p) (hp : p < L.length) (h2 : tOk p L[p] = true) : tGood L (p + 1) := by
 intro k hk hl
 by_cases e : k = p
 ·subst e; exact h2
 ·exact h k (by omega) hl
theorem rune_tok {s : ByteArray} {p i : Nat} (hp : p < s.size) (hl : p < (strI s).length) : tOk i ((Utf8.decode s p).1 : Int) = tOk i (strI s)[p] := by
 rw [strI_at hp hl]
 by_cases h : (s[p]'hp).toNat < 128
 ·rw [Go.decode_ascii s p hp h]
 ·have h1 := (Go.decode_high s p hp (by omega)).1
  cases e1 : tOk i ((Utf8.decode s p).1 : Int) with
  | true => have := tOk_ascii e1; omega
  | false =>
   cases e2 : tOk i ((s[p]'hp).toNat : Int) with
   | true => have := tOk_ascii e2; omega
   | false => rfl
theorem rune_tone {s : ByteArray} {p i : Nat} (hp : p < s.size) (hl : p < (strI s).length) (h : tOk i (strI s)[p] = true) : Utf8.decode s p = ((s[p]'hp).toNat, 1) := by
 rw [strI_at hp hl] at h
 have := tOk_ascii h
 exact Go.decode_ascii s p hp (by omega)

abbrev tagFn : Value := .func (.func n_name_letter_tag) ⟨[]⟩ ⟨[]⟩
abbrev pAll (gs g1 g3 : Nat) : List SP := [pt gs t_name_state [.func (.func n_name_all_1) ⟨[]⟩ ⟨[.pointer (some ⟨g1, 0, none⟩), .pointer (some ⟨g3, 0, none⟩)]⟩, .bool true], pt g1 t_func_name_letter_bool [tagFn], pt g3 t_p_name_state [.pointer (some ⟨gs, 0, none⟩)]]
section
variable {b : World} {F : List SP}
theorem nltag_S {c : Int} : SC Tryz.prog n_name_letter_tag [.int .i32 c] b F (fun v F' => v = .bool (tagC c) ∧ F' = F) := by
 refine enterS F_name_letter_tag rfl rfl rfl ?_
 (refine sw_seq (sw_region ?_); refine so_1 rfl ?_; refine so_nil (sn_then ?_); refine sw_seq (sw_region ?_); refine so_1 rfl ?_)
 refine so_callE rfl rfl rfl (nword_S) ?_
 (refine so_1 rfl ?_)
 by_cases h : lowB c = true
 ·rw [h]
  ((iterate 20 refine so_1 rfl ?_); refine so_nil (sn_then ?_); refine sw_ret ?_)
  refine sn_ret rfl (.tmp rfl .nil) (Ent.refl _) ?_
  exact ⟨congrArg Value.bool (by simp [tagC, h]), rfl⟩
 have h' : lowB c = false := by simpa using h
 rw [h']
 ((iterate 3 refine so_1 rfl ?_))
 refine so_if 8 rfl (fun h1 => ?_) (fun h1 => ?_)
 ·((iterate 5 refine so_1 rfl ?_))
  refine so_if 13 rfl (fun h2 => ?_) (fun h2 => ?_)
  ·((iterate 12 refine so_1 rfl ?_); refine so_nil (sn_then ?_); refine sw_ret ?_)
   refine sn_ret rfl (.tmp rfl .nil) (Ent.refl _) ?_
   exact ⟨congrArg Value.bool (by rw [tagC_iff.2 (by omega)]), rfl⟩
  ·((iterate 4 refine so_1 rfl ?_))
   refine so_if 17 rfl (fun h3 => ?_) (fun h3 => ?_)
   ·((iterate 8 refine so_1 rfl ?_); refine so_nil (sn_then ?_); refine sw_ret ?_)
    refine sn_ret rfl (.tmp rfl .nil) (Ent.refl _) ?_
    exact ⟨congrArg Value.bool (by rw [tagC_iff.2 (by omega)]), rfl⟩
   ((iterate 4 refine so_1 rfl ?_))
   refine so_if 21 rfl (fun h4 => ?_) (fun h4 => ?_)
   ·((iterate 4 refine so_1 rfl ?_); refine so_nil (sn_then ?_); refine sw_ret ?_)
    refine sn_ret rfl (.tmp rfl .nil) (Ent.refl _) ?_
    exact ⟨congrArg Value.bool (by rw [tagC_iff.2 (by omega)]), rfl⟩
   ·((iterate 4 refine so_1 rfl ?_); refine so_nil (sn_then ?_); refine sw_ret ?_)
    refine sn_ret rfl (.tmp rfl .nil) (Ent.refl _) ?_
    exact ⟨congrArg Value.bool (by simp only [tagC, h', Bool.false_or]; rw [Bool.eq_iff_iff]; simp; omega), rfl⟩
 ·((iterate 9 refine so_1 rfl ?_))
  refine so_if 17 rfl (fun h3 => ?_) (fun h3 => ?_)
  ·((iterate 8 refine so_1 rfl ?_); refine so_nil (sn_then ?_); refine sw_ret ?_)
   refine sn_ret rfl (.tmp rfl .nil) (Ent.refl _) ?_
   exact ⟨congrArg Value.bool (by rw [tagC_iff.2 (by omega)]), rfl⟩
  ((iterate 4 refine so_1 rfl ?_))
  refine so_if 21 rfl (fun h4 => ?_) (fun h4 => ?_)
  ·((iterate 4 refine so_1 rfl ?_); refine so_nil (sn_then ?_); refine sw_ret ?_)
   refine sn_ret rfl (.tmp rfl .nil) (Ent.refl _) ?_
   exact ⟨congrArg Value.bool (by rw [tagC_iff.2 (by omega)]), rfl⟩
  ·((iterate 4 refine so_1 rfl ?_); refine so_nil (sn_then ?_); refine sw_ret ?_)
   refine sn_ret rfl (.tmp rfl .nil) (Ent.refl _) ?_
   exact ⟨congrArg Value.bool (by simp only [tagC, h', Bool.false_or]; rw [Bool.eq_iff_iff]; simp; omega), rfl⟩
theorem nall1_S {c : Int} {gs g1 g3 : Nat} : SC Tryz.prog n_name_all_1 [.int .i32 c, .pointer (some ⟨g1, 0, none⟩), .pointer (some ⟨g3, 0, none⟩)] b (pAll gs g1 g3 ++ F) (fun v F' => v = (if tagC c = true then .pointer (some ⟨gs, 0, none⟩) else .pointer none) ∧ F' = pAll gs g1 g3 ++ F) := by
 refine enterS F_name_all_1 rfl rfl rfl ?_
 (refine sw_seq (sw_region ?_); refine so_1 rfl ?_; refine so_nil (sn_then ?_); (iterate 2 refine sw_seq ?_); refine sw_region ?_; refine so_l 1 rfl rfl rfl ?_; refine so_1 rfl ?_)
 refine so_callE rfl rfl rfl (nltag_S) ?_
 (refine so_nil (sn_then ?_))
 by_cases h : tagC c = true
 ·rw [h]
  (refine sw_cond_t rfl ?_; refine sw_seq (sw_region ?_); refine so_l 2 rfl rfl rfl ?_; refine so_1 rfl ?_; refine so_nil (sn_then ?_); refine sw_ret ?_; refine sn_then_ret ?_)
  refine sn_ret rfl (.tmp rfl .nil) (Ent.refl _) ?_
  exact ⟨rfl, rfl⟩
 ·have h' : tagC c = false := by simpa using h
  rw [h']
  (refine sw_cond_f rfl ?_; refine sw_skip ?_; refine sn_then ?_; refine sw_seq (sw_region ?_); refine so_1 rfl ?_; refine so_nil (sn_then ?_); refine sw_ret ?_)
  refine sn_ret rfl (.tmp rfl .nil) (Ent.refl _) ?_
  exact ⟨rfl, rfl⟩
theorem nall_S : SC Tryz.prog n_name_all [tagFn] b F (fun v F' => ∃ gs g1 g3, v = .pointer (some ⟨gs, 0, none⟩) ∧ F' = pAll gs g1 g3 ++ F) := by
 refine enterS F_name_all rfl rfl rfl ?_
 (refine sw_seq (sw_region ?_))
 refine so_box rfl rfl rfl rfl rfl fun g1 => ?_
 (refine so_1 rfl ?_; refine so_nil (sn_then ?_); refine sw_seq (sw_region ?_))
 refine so_new rfl rfl rfl rfl rfl fun g3 => ?_
 (refine so_nil (sn_then ?_); refine sw_seq (sw_region ?_); (iterate 2 refine so_1 rfl ?_))
 refine so_box rfl rfl rfl rfl rfl fun gs => ?_
 (refine so_s1 1 rfl rfl rfl rfl ?_; refine so_nil (sn_then ?_); refine sw_seq (sw_region ?_); refine so_l 1 rfl rfl rfl ?_; refine so_1 rfl ?_; refine so_nil (sn_then ?_); refine sw_ret ?_)
 refine sn_ret rfl (.tmp rfl .nil) (ent_keep 3 [0, 2, 1] rfl rfl) ?_
 exact ⟨gs, g1, g3, rfl, rfl⟩
theorem nTag1_S {c : Int} : SC Tryz.prog n_name_Tag_1 [.int .i32 c] b F (fun v F' => (tOk 0 c = true ∧ ∃ gs g1 g3, v = .pointer (some ⟨gs, 0, none⟩) ∧ F' = pAll gs g1 g3 ++ F) ∨ (tOk 0 c = false ∧ v = .pointer none ∧ F' = F)) := by
 refine enterS F_name_Tag_1 rfl rfl rfl ?_
 (refine sw_seq (sw_region ?_); refine so_1 rfl ?_; refine so_nil (sn_then ?_); (iterate 2 refine sw_seq ?_); refine sw_region ?_; (iterate 3 refine so_1 rfl ?_))
 by_cases h1 : c = 46
 ·refine so_know 5 (.bool false) rfl (by simp [h1]) ?_
  ((iterate 7 refine so_1 rfl ?_); refine so_nil (sn_then ?_); refine sw_cond_f rfl ?_; refine sw_skip ?_; refine sn_then ?_; refine sw_seq (sw_region ?_); refine so_1 rfl ?_; refine so_nil (sn_then ?_); refine sw_ret ?_)
  refine sn_ret rfl (.tmp rfl .nil) (Ent.refl _) ?_
  exact .inr ⟨by subst h1; rfl, rfl, rfl⟩
 refine so_know 5 (.bool true) rfl (by simp [h1]) ?_
 ((iterate 4 refine so_1 rfl ?_))
 by_cases h2 : c = 45
 ·refine so_know 9 (.bool false) rfl (by simp [h2]) ?_
  ((iterate 3 refine so_1 rfl ?_); refine so_nil (sn_then ?_); refine sw_cond_f rfl ?_; refine sw_skip ?_; refine sn_then ?_; refine sw_seq (sw_region ?_); refine so_1 rfl ?_; refine so_nil (sn_then ?_); refine sw_ret ?_)
  refine sn_ret rfl (.tmp rfl .nil) (Ent.refl _) ?_
  exact .inr ⟨by subst h2; rfl, rfl, rfl⟩
 refine so_know 9 (.bool true) rfl (by simp [h2]) ?_
 (refine so_1 rfl ?_)
 refine so_callE rfl rfl rfl (nltag_S) ?_
 (refine so_1 rfl ?_; refine so_nil (sn_then ?_))
 have ht : tOk 0 c = tagC c := by simp [tOk, h1, h2]
 rw [ht]
 by_cases h3 : tagC c = true
 ·rw [h3]
  (refine sw_cond_t rfl ?_; refine sw_seq (sw_region ?_))
  refine so_call rfl rfl rfl (nall_S) ?_
  rintro _ _ ⟨gs, g1, g3, rfl, rfl⟩
  (refine so_1 rfl ?_; refine so_nil (sn_then ?_); refine sw_ret ?_; refine sn_then_ret ?_)
  refine sn_ret rfl (.tmp rfl .nil) (Ent.refl _) ?_
  exact .inl ⟨rfl, gs, g1, g3, rfl, rfl⟩
 ·have h' : tagC c = false := by simpa using h3
  rw [h']
  (refine sw_cond_f rfl ?_; refine sw_skip ?_; refine sn_then ?_; refine sw_seq (sw_region ?_); refine so_1 rfl ?_; refine so_nil (sn_then ?_); refine sw_ret ?_)
  refine sn_ret rfl (.tmp rfl .nil) (Ent.refl _) ?_
  exact .inr ⟨rfl, rfl, rfl⟩
def tagSt (g : Nat) (F : List SP) : Option (Nat × Nat × Nat) → List SP
 | none => pt g t_name_state [.func (.func n_name_Tag_1) ⟨[]⟩ ⟨[]⟩, .bool false] :: F
 | some x => pAll x.1 x.2.1 x.2.2 ++ F
def tagPt (g : Nat) : Option (Nat × Nat × Nat) → Nat
 | none => g
 | some x => x.1
end

section
variable {b : World} {F : List SP}
set_option maxHeartbeats 1000000 in
theorem nrunT_S {s : ByteArray} {g : Nat} (hl : ¬ 64 < (strI s).length) : SC Tryz.prog n_name_run [.string s, .pointer (some ⟨g, 0, none⟩), .int .i64 7] b (tagSt g F none) (fun v F' => v = ftV (tagF (strI s)) ∧ F' = F) := by
 have hsz := strI_length s
 refine enterS F_name_run rfl rfl rfl ?_
 (refine sw_seq (sw_region ?_))
 refine so_new rfl rfl rfl rfl rfl fun g6 => ?_
 (refine so_nil (sn_then ?_); (iterate 2 refine sw_seq ?_); refine sw_region ?_; refine so_1 rfl ?_)
 refine so_rangeS rfl rfl rfl rfl rfl rfl fun gi => ?_
 (refine so_nil (sn_then ?_); refine sw_block ?_)
 refine sw_loop (S := Nat × Option (Nat × Nat × Nat)) (fun s' => [(0, .string s), (1, .pointer (some ⟨tagPt g s'.2, 0, none⟩)), (2, .int .i64 7), (6, .pointer (some ⟨g6, 0, none⟩)), (10, .pointer (some ⟨gi, 0, none⟩))]) (fun s' => ob gi (.stringIter s s'.1) :: pt g6 t_api_Fault [.int .i64 0, .int .i64 0] :: tagSt g F s'.2)
  (fun s' => s'.1 ≤ s.size ∧ tGood (strI s) s'.1 ∧ (s'.2 = none ↔ s'.1 = 0)) (fun s' => s.size - s'.1) (0, none) ⟨rfl, rfl, rfl, rfl, rfl, trivial⟩ (Ent.refl _) ⟨Nat.zero_le _, fun k hk => absurd hk (Nat.not_lt_zero k), ⟨fun _ => rfl, fun _ => rfl⟩⟩ ?_
 rintro ⟨p, st⟩ ⟨hp, hgood, hst⟩
 dsimp only at hp hgood hst ⊢
 (refine sw_seq (sw_region ?_))
 by_cases hlt : p < s.size
 ·have hpl : p < (strI s).length := by omega
  refine so_nextS 0 rfl rfl rfl rfl rfl hlt rfl ?_
  cases st with
  | none =>
   have hp0 : p = 0 := hst.1 rfl
   have htok := rune_tok (i := 0) hlt hpl
   have hone := rune_tone (i := 0) hlt hpl
   (refine so_1 rfl ?_; refine so_nil (sn_then ?_); refine sw_seq ?_; refine sw_cond_t rfl ?_; refine sw_skip ?_; refine sn_then ?_; refine sw_block ?_; refine sw_seq (sw_region ?_); (iterate 4 refine so_1 rfl ?_); refine so_nil (sn_then ?_); refine sw_seq (sw_region ?_); (iterate 3 refine so_1 rfl ?_); refine so_l 2 rfl rfl rfl ?_; refine so_1 rfl ?_)
   refine so_call rfl rfl rfl (nTag1_S) ?_
   rintro v F' h
   rcases h with ⟨h1, gs, g1, g3, rfl, rfl⟩ | ⟨h1, rfl, rfl⟩
   ·rw [htok] at h1
    have h2 := hone h1
    have hg := hgood.step hpl ((congrArg (fun i => tOk i (strI s)[p]) hp0).trans h1)
    (refine so_1 rfl ?_; refine so_nil (sn_then ?_); refine sw_seq (sw_region ?_); (iterate 2 refine so_1 rfl ?_); refine so_nil (sn_then ?_); refine sw_cond_f rfl ?_; refine sw_skip ?_; refine sn_block ?_)
    refine sn_round (p + 1, some (gs, g1, g3)) ⟨rfl, rfl, rfl, rfl, rfl, trivial⟩ ?_ ⟨hlt, hg, ⟨(fun h => by cases h), (fun h => by cases h)⟩⟩ (by dsimp only; omega)
    rw [h2]
    exact ent_keep 6 [3, 4, 0, 1, 2] rfl rfl
   ·rw [htok] at h1
    (refine so_1 rfl ?_; refine so_nil (sn_then ?_); refine sw_seq (sw_region ?_); (iterate 2 refine so_1 rfl ?_); refine so_nil (sn_then ?_); refine sw_cond_t rfl ?_; refine sw_seq (sw_region ?_); (iterate 3 refine so_1 rfl ?_); refine so_s1 1 rfl rfl rfl rfl ?_; refine so_nil (sn_then ?_); refine sw_ret ?_; refine sn_block_ret ?_; refine sn_loop_ret ?_; refine sn_block_ret ?_; refine sn_then_ret ?_)
    refine sn_ret rfl (.agg 1 rfl rfl rfl rfl rfl .nil) (ent_keep 3 [] rfl rfl) ?_
    exact ⟨by rw [tagF_bad hl hpl hgood ((congrArg (fun i => tOk i (strI s)[p]) hp0).trans h1)]; rfl, rfl⟩
  | some x =>
   obtain ⟨gs, g1, g3⟩ := x
   have hp0 : p ≠ 0 := fun e => by have := hst.2 e; cases this
   have htok := rune_tok (i := p) hlt hpl
   have hone := rune_tone (i := p) hlt hpl
   have htc : ∀ c, tOk p c = tagC c := fun c => by simp [tOk, hp0]
   (refine so_1 rfl ?_; refine so_nil (sn_then ?_); refine sw_seq ?_; refine sw_cond_t rfl ?_; refine sw_skip ?_; refine sn_then ?_; refine sw_block ?_; refine sw_seq (sw_region ?_); (iterate 4 refine so_1 rfl ?_); refine so_nil (sn_then ?_); refine sw_seq (sw_region ?_); (iterate 3 refine so_1 rfl ?_); refine so_l 2 rfl rfl rfl ?_; refine so_1 rfl ?_)
   refine so_callE rfl rfl rfl ((nall1_S (gs := gs)).at (ent_keep 5 [2, 3, 4, 0, 1] rfl rfl) (ent_keep 5 [3, 4, 0, 1, 2] rfl rfl)) ?_
   (refine so_1 rfl ?_; refine so_nil (sn_then ?_); refine sw_seq (sw_region ?_); refine so_1 rfl ?_)
   rw [← htc, htok]
   by_cases h1 : tOk p (strI s)[p] = true
   ·have h2 := hone h1
    rw [if_pos h1]
    (refine so_1 rfl ?_; refine so_nil (sn_then ?_); refine sw_cond_f rfl ?_; refine sw_skip ?_; refine sn_block ?_)
    refine sn_round (p + 1, some (gs, g1, g3)) ⟨rfl, rfl, rfl, rfl, rfl, trivial⟩ ?_ ⟨hlt, hgood.step hpl h1, ⟨(fun h => by cases h), (fun h => by cases h)⟩⟩ (by dsimp only; omega)
    rw [h2]
    exact Ent.refl _
   ·rw [if_neg h1]
    (refine so_1 rfl ?_; refine so_nil (sn_then ?_); refine sw_cond_t rfl ?_; refine sw_seq (sw_region ?_); (iterate 3 refine so_1 rfl ?_); refine so_s1 1 rfl rfl rfl rfl ?_; refine so_nil (sn_then ?_); refine sw_ret ?_; refine sn_block_ret ?_; refine sn_loop_ret ?_; refine sn_block_ret ?_; refine sn_then_ret ?_)
    refine sn_ret rfl (.agg 1 rfl rfl rfl rfl rfl .nil) (ent_keep 5 [] rfl rfl) ?_
    exact ⟨by rw [tagF_bad hl hpl hgood (by simpa using h1)]; rfl, rfl⟩
 ·refine so_nextSE 0 rfl rfl rfl rfl rfl (by omega) ?_
  have he := tagF_end hl (by
   have : p = (strI s).length := by omega
   rw [this] at hgood; exact hgood)
  cases st with
  | none =>
   have hp0 : p = 0 := hst.1 rfl
   rw [if_pos (by omega)] at he
   (refine so_1 rfl ?_; refine so_nil (sn_then ?_); refine sw_seq ?_; refine sw_cond_f rfl ?_; refine sw_exit ?_; refine sn_then_exit ?_; refine sn_loop_exit ?_; refine sn_block_exit ?_; refine sn_then ?_; (iterate 2 refine sw_seq ?_); refine sw_region ?_; (iterate 3 refine so_1 rfl ?_); refine so_l 2 rfl rfl rfl ?_; refine so_1 rfl ?_; refine so_nil (sn_then ?_); refine sw_cond_t rfl ?_; refine sw_seq (sw_region ?_); (iterate 4 refine so_1 rfl ?_); refine so_s1 1 rfl rfl rfl rfl ?_; refine so_nil (sn_then ?_); refine sw_ret ?_; refine sn_then_ret ?_)
   refine sn_ret rfl (.agg 1 rfl rfl rfl rfl rfl .nil) (ent_keep 3 [] rfl rfl) ?_
   exact ⟨by rw [he, show s.size = 0 by omega]; rfl, rfl⟩
  | some x =>
   have hp0 : p ≠ 0 := fun e => by have := hst.2 e; cases this
   rw [if_neg (by omega)] at he
   (refine so_1 rfl ?_; refine so_nil (sn_then ?_); refine sw_seq ?_; refine sw_cond_f rfl ?_; refine sw_exit ?_; refine sn_then_exit ?_; refine sn_loop_exit ?_; refine sn_block_exit ?_; refine sn_then ?_; (iterate 2 refine sw_seq ?_); refine sw_region ?_; (iterate 3 refine so_1 rfl ?_); refine so_l 2 rfl rfl rfl ?_; refine so_1 rfl ?_; refine so_nil (sn_then ?_); refine sw_cond_f rfl ?_; refine sw_skip ?_; refine sn_then ?_; refine sw_seq (sw_region ?_); refine so_1 rfl ?_; refine so_s1 1 rfl rfl rfl rfl ?_; refine so_nil (sn_then ?_); refine sw_ret ?_)
   refine sn_ret rfl (.agg 1 rfl rfl rfl rfl rfl .nil) (ent_keep 5 [] rfl rfl) ?_
   exact ⟨by rw [he]; rfl, rfl⟩
theorem Tag_S {s : ByteArray} : SC Tryz.prog n_name_Tag [.string s] b F (fun v F' => v = ftV (tagF (strI s)) ∧ F' = F) := by
 have hsz := strI_length s
 refine enterS F_name_Tag rfl rfl rfl ?_
 (refine sw_seq (sw_region ?_))
 refine so_new rfl rfl rfl rfl rfl fun g2 => ?_
 (refine so_nil (sn_then ?_); (iterate 2 refine sw_seq ?_); refine sw_region ?_; refine so_1 rfl ?_)
 refine so_call rfl rfl rfl (nlong_S) ?_
 rintro v F' ⟨hv, rfl⟩
 by_cases h : (64 : Int) < s.size
 ·rw [if_pos h] at hv
  subst hv
  ((iterate 3 refine so_1 rfl ?_))
  refine so_new rfl rfl rfl rfl rfl fun g3 => ?_
  (refine so_s1 0 rfl rfl rfl rfl ?_; refine so_1 rfl ?_; refine so_nil (sn_then ?_); refine sw_seq (sw_region ?_); refine so_1 rfl ?_; refine so_nil (sn_then ?_); refine sw_cond_t rfl ?_; refine sw_seq (sw_region ?_); refine so_l 0 rfl rfl rfl ?_; refine so_s1 1 rfl rfl rfl rfl ?_; refine so_nil (sn_then ?_); refine sw_ret ?_; refine sn_then_ret ?_)
  refine sn_ret rfl (.agg 1 rfl rfl rfl rfl rfl .nil) (ent_keep 2 [] rfl rfl) ?_
  exact ⟨by rw [tagF_long (by omega)]; rfl, rfl⟩
 ·rw [if_neg h] at hv
  subst hv
  ((iterate 3 refine so_1 rfl ?_))
  refine so_new rfl rfl rfl rfl rfl fun g3 => ?_
  (refine so_s1 0 rfl rfl rfl rfl ?_; refine so_1 rfl ?_; refine so_nil (sn_then ?_); refine sw_seq (sw_region ?_); refine so_1 rfl ?_; refine so_nil (sn_then ?_); refine sw_cond_f rfl ?_; refine sw_skip ?_; refine sn_then ?_; refine sw_seq (sw_region ?_); refine so_1 rfl ?_; refine so_nil (sn_then ?_); refine sw_seq (sw_region ?_); (iterate 3 refine so_1 rfl ?_))
  refine so_box rfl rfl rfl rfl rfl fun g => ?_
  skip
  refine so_call rfl rfl rfl (nrunT_S (by omega)) ?_
  rintro v F' ⟨rfl, rfl⟩
  (refine so_s1 1 rfl rfl rfl rfl ?_; refine so_nil (sn_then ?_); refine sw_ret ?_)
  refine sn_ret rfl (.agg 1 rfl rfl rfl rfl rfl .nil) (ent_keep 2 [] rfl rfl) ?_
  exact ⟨rfl, rfl⟩
end
end Go.Proofs.YtdmfcnjgdicncaaGreat
