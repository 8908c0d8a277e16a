/- Who has what, part eleven: a matrix is made. Conditions: not too many. -/
import Derived.Test.YtajbpdmhpcpkgaaK7
import Derived.Test.YtajbpdmhpcpkgaaK5
import Derived.Test.YtajbpdmhpcpkgaaK6
namespace Go.Proofs.Ytajbpdmhpcpkgaa
open Go Go.Eng Go.RowKit Go.WideMaps

def newB (n : Nat) (own : Int) : Bool := decide (1 ≤ n ∧ n ≤ 16 ∧ 1 ≤ own ∧ own ≤ n)
theorem newB_iff {n : Nat} {own : Int} : newB n own = true ↔ 1 ≤ n ∧ n ≤ 16 ∧ 1 ≤ own ∧ own ≤ n := by unfold newB; exact decide_eq_true_iff
theorem made_same {zs : Array Value} {z : Value} (k : Nat) (h : zs.toList = List.replicate (k + 1) z) (m : Nat) : (madeCells zs m).toList = List.replicate m z := by
  have hs : zs.size = k + 1 := by rw [← Array.length_toList, h, List.length_replicate]
  apply List.ext_getElem
  · simp [madeCells]
  · intro i h1 h2
    simp only [madeCells, Array.toList_map, List.getElem_map, List.getElem_replicate]
    have hlt := Nat.mod_lt i (show 0 < zs.size by omega)
    simp only [Array.toList_range, List.getElem_range]
    rw [getElem!_pos zs _ hlt, ← Array.getElem_toList hlt]
    have hu : ∀ u ∈ zs.toList, u = z := by rw [h]; exact fun u hu => List.eq_of_mem_replicate hu
    exact hu _ (List.getElem_mem _)
theorem rwC_zero {n : Nat} (h : n ≤ 16) : rwC (List.replicate n 0) = List.replicate 16 (.int .i64 0) := by
  simp only [rwC, List.length_replicate, ints, List.map_append, List.map_replicate, List.replicate_append_replicate]
  congr 1; omega
theorem rws_zero {n : Nat} (h : n ≤ 16) : ∀ k, rwsC (List.replicate k (List.replicate n 0)) = List.replicate (k * 16) (.int .i64 0)
  | 0 => rfl
  | k + 1 => by
    rw [List.replicate_succ]
    show rwC _ ++ rwsC _ = _
    rw [rwC_zero h, rws_zero h k, List.replicate_append_replicate]
    congr 1; omega
theorem rows_zero {n : Nat} (h1 : 1 ≤ n) (h : n ≤ 16) : RowsOk (List.replicate n (List.replicate n 0)) := by
  refine ⟨by simpa using h1, by simpa using h, fun r hr => ?_, fun r hr x hx => ?_⟩
  · rw [List.eq_of_mem_replicate hr]; simp
  · rw [List.eq_of_mem_replicate hr] at hx
    rw [List.eq_of_mem_replicate hx]; omega
section
variable {b : World} {F : List SP} {v : Value}
theorem mNew_bad {n : Nat} {own : Int} (h : newB n own = false) : SC Try.prog n_stable_New [.int .i64 n, .int .i64 own] b F (fun u F' => u = .tuple ⟨[.pointer none, .int .i64 3]⟩ ∧ F' = F) := by
  have hh : ¬ (1 ≤ n ∧ n ≤ 16 ∧ 1 ≤ own ∧ own ≤ n) := fun q => by rw [newB_iff.2 q] at h; cases h
  refine enterS F_stable_New rfl rfl rfl ?_
  (refine sw_seq ?_; refine sw_region ?_; (iterate 2 refine so_1 rfl ?_); refine so_nil ?_; refine sn_then ?_; (iterate 2 refine sw_seq ?_); refine sw_region ?_; (iterate 3 refine so_1 rfl ?_))
  by_cases h1 : (n : Int) < 1
  · refine so_know 8 (.bool true) rfl (congrArg Value.bool (decide_eq_true h1)) ?_
    ((iterate 12 refine so_1 rfl ?_); refine so_nil ?_; refine sn_then ?_; refine sw_cond_t rfl ?_; refine sw_seq ?_; refine sw_region ?_; (iterate 2 refine so_1 rfl ?_); refine so_nil ?_; refine sn_then ?_; refine sw_ret ?_; refine sn_then_ret ?_)
    refine sn_ret rfl (.tmp rfl (.tmp rfl .nil)) (Ent.refl _) ?_
    exact ⟨rfl, rfl⟩
  refine so_know 8 (.bool false) rfl (congrArg Value.bool (decide_eq_false h1)) ?_
  ((iterate 4 refine so_1 rfl ?_))
  by_cases h2 : (16 : Int) < n
  · refine so_know 12 (.bool true) rfl (congrArg Value.bool (decide_eq_true h2)) ?_
    ((iterate 8 refine so_1 rfl ?_); refine so_nil ?_; refine sn_then ?_; refine sw_cond_t rfl ?_; refine sw_seq ?_; refine sw_region ?_; (iterate 2 refine so_1 rfl ?_); refine so_nil ?_; refine sn_then ?_; refine sw_ret ?_; refine sn_then_ret ?_)
    refine sn_ret rfl (.tmp rfl (.tmp rfl .nil)) (Ent.refl _) ?_
    exact ⟨rfl, rfl⟩
  refine so_know 12 (.bool false) rfl (congrArg Value.bool (decide_eq_false h2)) ?_
  ((iterate 4 refine so_1 rfl ?_))
  by_cases h3 : own < 1
  · refine so_know 16 (.bool true) rfl (congrArg Value.bool (decide_eq_true h3)) ?_
    ((iterate 4 refine so_1 rfl ?_); refine so_nil ?_; refine sn_then ?_; refine sw_cond_t rfl ?_; refine sw_seq ?_; refine sw_region ?_; (iterate 2 refine so_1 rfl ?_); refine so_nil ?_; refine sn_then ?_; refine sw_ret ?_; refine sn_then_ret ?_)
    refine sn_ret rfl (.tmp rfl (.tmp rfl .nil)) (Ent.refl _) ?_
    exact ⟨rfl, rfl⟩
  refine so_know 16 (.bool false) rfl (congrArg Value.bool (decide_eq_false h3)) ?_
  ((iterate 4 refine so_1 rfl ?_); refine so_nil ?_; refine sn_then ?_)
  refine sw_if rfl (fun h4 => ?_) (fun h4 => by omega)
  (refine sw_seq ?_; refine sw_region ?_; (iterate 2 refine so_1 rfl ?_); refine so_nil ?_; refine sn_then ?_; refine sw_ret ?_; refine sn_then_ret ?_)
  refine sn_ret rfl (.tmp rfl (.tmp rfl .nil)) (Ent.refl _) ?_
  exact ⟨rfl, rfl⟩
theorem mNew_bad2 {n own : Int} (h : n < 1 ∨ 16 < n) : SC Try.prog n_stable_New [.int .i64 n, .int .i64 own] b F (fun u F' => u = .tuple ⟨[.pointer none, .int .i64 3]⟩ ∧ F' = F) := by
  refine enterS F_stable_New rfl rfl rfl ?_
  (refine sw_seq ?_; refine sw_region ?_; (iterate 2 refine so_1 rfl ?_); refine so_nil ?_; refine sn_then ?_; (iterate 2 refine sw_seq ?_); refine sw_region ?_; (iterate 3 refine so_1 rfl ?_))
  by_cases h1 : n < 1
  · refine so_know 8 (.bool true) rfl (congrArg Value.bool (decide_eq_true h1)) ?_
    ((iterate 12 refine so_1 rfl ?_); refine so_nil ?_; refine sn_then ?_; refine sw_cond_t rfl ?_; refine sw_seq ?_; refine sw_region ?_; (iterate 2 refine so_1 rfl ?_); refine so_nil ?_; refine sn_then ?_; refine sw_ret ?_; refine sn_then_ret ?_)
    refine sn_ret rfl (.tmp rfl (.tmp rfl .nil)) (Ent.refl _) ?_
    exact ⟨rfl, rfl⟩
  refine so_know 8 (.bool false) rfl (congrArg Value.bool (decide_eq_false h1)) ?_
  ((iterate 4 refine so_1 rfl ?_))
  by_cases h2 : (16 : Int) < n
  · refine so_know 12 (.bool true) rfl (congrArg Value.bool (decide_eq_true h2)) ?_
    ((iterate 8 refine so_1 rfl ?_); refine so_nil ?_; refine sn_then ?_; refine sw_cond_t rfl ?_; refine sw_seq ?_; refine sw_region ?_; (iterate 2 refine so_1 rfl ?_); refine so_nil ?_; refine sn_then ?_; refine sw_ret ?_; refine sn_then_ret ?_)
    refine sn_ret rfl (.tmp rfl (.tmp rfl .nil)) (Ent.refl _) ?_
    exact ⟨rfl, rfl⟩
  omega
set_option maxRecDepth 20000 in
set_option maxHeartbeats 1000000 in
theorem mNew_S {n : Nat} {own : Int} (h : newB n own = true) : SC Try.prog n_stable_New [.int .i64 n, .int .i64 own] b F (fun u F' => ∃ g gr gm, u = .tuple ⟨[.pointer (some ⟨g, 0, none⟩), .int .i64 0]⟩ ∧ F' = stM g gr gm own (List.replicate n (List.replicate n 0)) [] F) := by
  obtain ⟨a1, a2, a3, a4⟩ := newB_iff.1 h
  refine enterS F_stable_New rfl rfl rfl ?_
  (refine sw_seq ?_; refine sw_region ?_; (iterate 2 refine so_1 rfl ?_); refine so_nil ?_; refine sn_then ?_; (iterate 2 refine sw_seq ?_); refine sw_region ?_; (iterate 3 refine so_1 rfl ?_))
  refine so_know 8 (.bool false) rfl (congrArg Value.bool (decide_eq_false (by omega))) ?_
  ((iterate 4 refine so_1 rfl ?_))
  refine so_know 12 (.bool false) rfl (congrArg Value.bool (decide_eq_false (by omega))) ?_
  ((iterate 4 refine so_1 rfl ?_))
  refine so_know 16 (.bool false) rfl (congrArg Value.bool (decide_eq_false (by omega))) ?_
  ((iterate 4 refine so_1 rfl ?_); refine so_nil ?_; refine sn_then ?_)
  refine sw_if rfl (fun h4 => by omega) (fun _ => ?_)
  (refine sw_skip ?_; refine sn_then ?_; refine sw_seq ?_; refine sw_region ?_; (iterate 2 refine so_1 rfl ?_))
  refine so_make (sz := 16) (n := n) (cs := List.replicate (n * 16) (.int .i64 0)) rfl rfl rfl rfl rfl rfl rfl rfl rfl (by omega) (by exact made_same (z := .int .i64 0) 15 rfl _) fun gr => ?_
  rw [← rws_zero a2 n]
  refine so_ent (G := rWr gr (List.replicate n (List.replicate n 0)) :: F) (by simp only [rWr, List.length_replicate]; exact Ent.refl _) ?_
  skip
  refine so_mkmap dotP dotOk rfl rfl rfl fun gm => ?_
  (refine so_1 rfl ?_)
  refine so_box rfl rfl rfl rfl rfl fun g => ?_
  ((iterate 2 refine so_1 rfl ?_); refine so_nil ?_; refine sn_then ?_; refine sw_ret ?_)
  refine sn_ret rfl (.tmp rfl (.tmp rfl .nil)) (((ent_close (G := [])).trans (ent_keep 4 [1, 3, 2, 0] rfl rfl))) ?_
  exact ⟨g, gr, gm, rfl, by simp only [stM, List.length_replicate]; rfl⟩
end
end Go.Proofs.Ytajbpdmhpcpkgaa
/- Who has what, part twelve: a matrix is loaded. Conditions: not too many. -/
namespace Go.Proofs.Ytajbpdmhpcpkgaa
open Go Go.Eng Go.RowKit Go.WideMaps

/-- Why an event is not loaded. -/
def evErr (R : List (List Int)) (r0 : List Int) (seen : List Ev) (x : Ev) : Int :=
  if fitB R.length x = false then 2 else if hasL r0 x.r x.n = false then 25 else if (findE seen (dotE x)).isSome = true then 19 else 0
def ldErr (R : List (List Int)) (r0 : List Int) : List Ev → List Ev → Int
  | _, [] => 0
  | seen, x :: l => if evErr R r0 seen x = 0 then ldErr R r0 (seen ++ [x]) l else evErr R r0 seen x
def loadErr (own : Int) (R : List (List Int)) (l : List Ev) : Int :=
  if newB R.length own = false then 3 else if R.all (numB R.length) = false then 2 else ldErr R (R.getD (own.toNat - 1) []) [] l
theorem findE_nE (K : List Ev) (d : Int × Int) : (findE (K.map nE) d).isSome = (findE K d).isSome := by
  induction K with
  | nil => rfl
  | cons e K ih =>
    simp only [findE, List.map_cons, List.find?_cons] at *
    by_cases h : dotE e = d
    · have h2 : dotE (nE e) = d := h
      rw [decide_eq_true h, decide_eq_true h2]; rfl
    · have h2 : ¬ dotE (nE e) = d := h
      rw [decide_eq_false h, decide_eq_false h2]; exact ih
theorem evErr_nE {R : List (List Int)} {r0 : List Int} {K l : List Ev} {x : Ev} (h : K.map nE = l.map nE) : evErr R r0 K x = evErr R r0 l x := by
  unfold evErr
  rw [← findE_nE K, ← findE_nE l, h]
theorem rowsOk_of {R : List (List Int)} (h1 : 1 ≤ R.length) (h2 : R.length ≤ 16) (h : R.all (numB R.length) = true) : RowsOk R :=
  ⟨h1, h2, fun r hr => (numB_iff.1 (List.all_eq_true.1 h r hr)).1, fun r hr => (numB_iff.1 (List.all_eq_true.1 h r hr)).2⟩
/-- Rows in part: the first ones laid. -/
def partR (R : List (List Int)) (i : Nat) : List (List Int) := R.take i ++ List.replicate (R.length - i) (List.replicate R.length 0)
theorem partR_len (R : List (List Int)) {i : Nat} (hi : i ≤ R.length) : (partR R i).length = R.length := by
  rw [partR, List.length_append, List.length_take, List.length_replicate]; omega
theorem partR_ok {R : List (List Int)} {i : Nat} (h1 : 1 ≤ R.length) (h2 : R.length ≤ 16) (hi : i ≤ R.length) (h : ∀ r ∈ R.take i, numB R.length r = true) : RowsOk (partR R i) := by
  have hl := partR_len R hi
  refine ⟨by omega, by omega, fun r hr => ?_, fun r hr x hx => ?_⟩
  · rw [hl]
    rcases List.mem_append.1 hr with hr | hr
    · exact (numB_iff.1 (h r hr)).1
    · rw [List.eq_of_mem_replicate hr, List.length_replicate]
  · rcases List.mem_append.1 hr with hr | hr
    · exact (numB_iff.1 (h r hr)).2 x hx
    · rw [List.eq_of_mem_replicate hr] at hx
      rw [List.eq_of_mem_replicate hx]; omega
theorem spl_mid {A x z B y : List Value} (h : x.length = y.length) : spl (A ++ (x ++ z) ++ B) A.length y = A ++ (y ++ z) ++ B := by
  have e1 : A ++ (x ++ z) ++ B = A ++ (x ++ (z ++ B)) := by simp only [List.append_assoc]
  simp only [spl, e1]
  rw [List.take_left, ← h, List.drop_length_add_append, List.drop_left]
  simp only [List.append_assoc]
theorem rws_part {R : List (List Int)} (h2 : R.length ≤ 16) {i : Nat} (hi : i < R.length) (h : ∀ r ∈ R.take i, numB R.length r = true) (hv : R[i].length = R.length) : spl (rwsC (partR R i)) (i * 16) (ints R[i]) = rwsC (partR R (i + 1)) := by
  obtain ⟨m, hm⟩ : ∃ m, R.length - i = m + 1 := ⟨R.length - i - 1, by omega⟩
  have e1 : partR R i = R.take i ++ List.replicate R.length 0 :: List.replicate m (List.replicate R.length 0) := by rw [partR, hm, List.replicate_succ]
  have e2 : partR R (i + 1) = R.take i ++ R[i] :: List.replicate m (List.replicate R.length 0) := by
    rw [partR, List.take_succ_eq_append_getElem hi, show R.length - (i + 1) = m by omega, List.append_assoc]; rfl
  have hA : (rwsC (R.take i)).length = i * 16 := by
    have := flC_len (f := rwC) (l := R.take i) (sz := 16) fun r hr => rwC_len (by rw [(numB_iff.1 (h r hr)).1]; exact h2)
    rw [this, List.length_take, Nat.min_eq_left (by omega)]
  have e3 : ∀ (x : List Int), x.length = R.length → rwsC (R.take i ++ x :: List.replicate m (List.replicate R.length 0)) = rwsC (R.take i) ++ (ints x ++ ints (List.replicate (16 - R.length) 0)) ++ rwsC (List.replicate m (List.replicate R.length 0)) := fun x hx => by
    show flC rwC _ = _
    rw [flC_app, flC, rwC, hx]
    simp [ints, List.append_assoc]
  rw [e1, e2, e3 _ (by simp), e3 _ hv, ← hA]
  exact spl_mid (by simp [ints, hv])
/-- Rows may be read. -/
structure RL (w : World) (v : Value) (L : List (Value × List Int)) : Prop where
  sl : SL w 1 v L.length (L.map Prod.fst)
  vl : ∀ m ∈ L, VL (Value.int .i64) w m.1 m.2
section
variable {b : World} {F : List SP}
set_option maxRecDepth 20000 in
set_option maxHeartbeats 8000000 in
theorem mLoad_S {rv lv : Value} {own : Int} {L : List (Value × List Int)} {l : List Ev} (hr : ∀ w, Sat b F w → RL w rv L) (hl : ∀ w, Sat b F w → EL w lv l) (hm : ∀ e ∈ l, EvM e) (hd : ∀ e ∈ l, dotOk (dotE e)) (hn : l.length ≤ 100000) :
    SC Try.prog n_stable_Load [.int .i64 own, rv, lv] b F (fun u F' => (loadErr own (L.map Prod.snd) l ≠ 0 ∧ u = .tuple ⟨[.pointer none, .int .i64 (loadErr own (L.map Prod.snd) l)]⟩ ∧ F' = F) ∨
      (loadErr own (L.map Prod.snd) l = 0 ∧ ∃ g gr gm K, u = .tuple ⟨[.pointer (some ⟨g, 0, none⟩), .int .i64 0]⟩ ∧ K.map nE = l.map nE ∧ F' = stM g gr gm own (L.map Prod.snd) K F)) := by
  have h32 : ∀ e ∈ l, e.id.length = 32 := fun e he => (hm e he).l32
  have hRl : (L.map Prod.snd).length = L.length := List.length_map _
  refine enterS F_stable_Load rfl rfl rfl ?_
  refine sw_fact (fun w H => sl_form (hr w H).sl) ?_
  rintro ⟨Ar, cr, rfl, _, _, _, kr, _⟩
  refine sw_fact (fun w H => sl_form (hl w H).sl) ?_
  rintro ⟨Al, cl, rfl, _, _, _, kl, _⟩
  (refine sw_seq ?_; refine sw_region ?_; (iterate 2 refine so_1 rfl ?_); refine so_nil ?_; refine sn_then ?_; refine sw_seq ?_; refine sw_region ?_; (iterate 3 refine so_1 rfl ?_))
  cases hnb : newB L.length own with
  | false =>
    refine so_call rfl rfl rfl (mNew_bad hnb) ?_
    rintro _ _ ⟨rfl, rfl⟩
    ((iterate 5 refine so_1 rfl ?_); refine so_nil ?_; refine sn_then ?_; (iterate 2 refine sw_seq ?_); refine sw_region ?_; (iterate 2 refine so_1 rfl ?_); refine so_nil ?_; refine sn_then ?_; refine sw_cond_t rfl ?_; refine sw_seq ?_; refine sw_region ?_; (iterate 3 refine so_1 rfl ?_); refine so_nil ?_; refine sn_then ?_; refine sw_ret ?_; refine sn_then_ret ?_)
    refine sn_ret rfl (.tmp rfl (.tmp rfl .nil)) (Ent.refl _) ?_
    have e : loadErr own (L.map Prod.snd) l = 3 := by unfold loadErr; rw [hRl, hnb]; rfl
    rw [e]
    exact .inl ⟨by decide, rfl, rfl⟩
  | true =>
  obtain ⟨a1, a2, a3, a4⟩ := newB_iff.1 hnb
  obtain ⟨q0, rfl⟩ : ∃ q0 : Nat, own = (q0 : Int) + 1 := ⟨own.toNat - 1, by omega⟩
  have hq0 : q0 < L.length := by omega
  refine so_call rfl rfl rfl (mNew_S hnb) ?_
  rintro _ _ ⟨g, gr, gm, rfl, rfl⟩
  have e0 : List.replicate L.length (List.replicate L.length 0) = partR (L.map Prod.snd) 0 := by simp [partR]
  rw [e0]
  ((iterate 5 refine so_1 rfl ?_); refine so_nil ?_; refine sn_then ?_; (iterate 2 refine sw_seq ?_); refine sw_region ?_; (iterate 2 refine so_1 rfl ?_); refine so_nil ?_; refine sn_then ?_; refine sw_cond_f rfl ?_; refine sw_skip ?_; refine sn_then ?_; (iterate 2 refine sw_seq ?_); refine sw_region ?_; (iterate 3 refine so_1 rfl ?_); refine so_nil ?_; refine sn_then ?_; refine sw_block ?_)
  refine sw_loop (S := Nat) (fun i => [(0, .int .i64 ((q0 : Int) + 1)), (2, .slice Al l.length cl), (8, .pointer (some ⟨g, 0, none⟩)), (26, .slice Ar L.length cr), (27, .int .i64 (L.length : Int)), (28, .int .i64 (i : Int))])
    (fun i => stM g gr gm ((q0 : Int) + 1) (partR (L.map Prod.snd) i) [] F) (fun i => i ≤ L.length ∧ ∀ r ∈ (L.map Prod.snd).take i, numB L.length r = true) (fun i => L.length - i) 0 ⟨rfl, rfl, rfl, rfl, rfl, rfl, trivial⟩ (Ent.refl _) ⟨Nat.zero_le _, fun r hr => by simp at hr⟩ ?_
  rintro i ⟨hi, hP⟩
  have hok := partR_ok (R := L.map Prod.snd) (i := i) (by omega) (by omega) (by omega) (by rw [hRl]; exact hP)
  have hpl := partR_len (L.map Prod.snd) (i := i) (by omega)
  (refine sw_seq ?_; refine sw_region ?_; refine so_1 rfl ?_; refine so_nil ?_; refine sn_then ?_; refine sw_seq ?_)
  refine sw_if rfl (fun h1 => ?_) (fun h1 => ?_)
  · have h1' : i < L.length := by omega
    obtain ⟨gg, oo, rfl⟩ := kr (by omega)
    have hmem := List.getElem_mem h1'
    have hc : (L.map Prod.fst)[i]? = some L[i].1 := by rw [List.getElem?_map, List.getElem?_eq_getElem h1']; rfl
    have hg : (L.map Prod.snd)[i]'(by omega) = L[i].2 := List.getElem_map _
    have hRt : (L.map Prod.snd).take (i + 1) = (L.map Prod.snd).take i ++ [L[i].2] := by rw [List.take_succ_eq_append_getElem (by omega), hg]
    have hpart := rws_part (R := L.map Prod.snd) (i := i) (by omega) (by omega) (by rw [hRl]; exact hP)
    rw [hg, hRl] at hpart
    have hin : L[i].2 ∈ L.map Prod.snd := List.mem_map_of_mem hmem
    generalize L[i] = p at *
    have hv : ∀ w, Sat b F w → VL (Value.int .i64) w p.1 p.2 := fun w H => (hr w H).vl p hmem
    refine sw_fact (fun w H => (hv w (H.ent (ent_keep 4 [] rfl rfl))).form) ?_
    rintro ⟨Ap, cp, hp1, _, _, _, _⟩
    (refine sw_skip ?_; refine sn_then ?_; refine sw_seq ?_; refine sw_block ?_; refine sw_seq ?_; refine sw_region ?_; refine so_1 rfl ?_; refine so_2 rfl (by omega) ?_)
    refine so_rd rfl (fun w H => ex_load rfl rfl rfl (by rw [mulz_eq, Int.toNat_natCast, Nat.mul_one]; exact (sl_cell (hr w (H.ent (ent_keep 4 [] rfl rfl))).sl (by rw [List.length_map]; exact h1')).trans hc)) rfl ?_
    ((iterate 2 refine so_1 rfl ?_); refine so_nil ?_; refine sn_then ?_; (iterate 2 refine sw_seq ?_); refine sw_region ?_; (iterate 2 refine so_1 rfl ?_))
    refine so_callE rfl rfl rfl (numbers_S (own := (q0 : Int) + 1) (K := []) hok hv) ?_
    rw [hpl, hRl]
    (refine so_1 rfl ?_; refine so_nil ?_; refine sn_then ?_)
    refine sw_cond rfl (fun q => ?_) (fun q => ?_)
    · have q' : numB L.length p.2 = false := by simpa using q
      (refine sw_seq ?_; refine sw_region ?_; (iterate 2 refine so_1 rfl ?_); refine so_nil ?_; refine sn_then ?_; refine sw_ret ?_; refine sn_then_ret ?_; refine sn_block_ret ?_; refine sn_then_ret ?_; refine sn_loop_ret ?_; refine sn_block_ret ?_; refine sn_then_ret ?_)
      refine sn_ret rfl (.tmp rfl (.tmp rfl .nil)) (ent_keep 4 [] rfl rfl) ?_
      have e : loadErr ((q0 : Int) + 1) (L.map Prod.snd) l = 2 := by
        have ha : (L.map Prod.snd).all (numB (L.map Prod.snd).length) = false := by
          rw [hRl]
          refine List.all_eq_false.2 ⟨p.2, hin, by rw [q']; simp⟩
        unfold loadErr
        rw [ha, hRl, hnb]; rfl
      rw [e]
      exact .inl ⟨by decide, rfl, rfl⟩
    · have q' : numB L.length p.2 = true := by simpa using q
      have hpl2 := (numB_iff.1 q').1
      have hl9 := hok.len
      rw [hpl, hRl] at hl9
      (refine sw_skip ?_; refine sn_then ?_; refine sw_region ?_; (iterate 3 refine so_1 rfl ?_); refine so_l 0 rfl rfl rfl ?_; refine so_1 rfl ?_; (iterate 2 refine so_2 rfl (by omega) ?_); refine so_1 rfl ?_)
      refine so_know 44 (.slice Ap p.2.length cp) rfl hp1 ?_
      refine so_copyRow (m := p.2.length) (news := ints p.2) 1 (i * 16) rfl rfl rfl rfl rfl rfl rfl rfl rfl (hpart hpl2) rfl (by simp [mulz_eq]) (fun w H => by rw [← hp1]; exact hv w (H.ent (ent_keep 4 [] rfl rfl))) (by omega) (by rw [hl9]; omega) (by intro u hu; simp [ints] at hu; obtain ⟨x, _, rfl⟩ := hu; rfl) ?_
      (refine so_nil ?_; refine sn_block ?_; refine sn_then ?_; refine sw_region ?_; refine so_2 rfl (by (unfold I64; omega)) ?_; refine so_1 rfl ?_; refine so_nil ?_)
      rw [show (i : Int) + 1 = ((i + 1 : Nat) : Int) by omega]
      refine sn_round (i + 1) ⟨rfl, rfl, rfl, rfl, rfl, rfl, trivial⟩ ?_ ⟨h1', fun r hr => ?_⟩ (by omega)
      · simp only [stM, rWr, partR_len (L.map Prod.snd) (i := i) (by omega), partR_len (L.map Prod.snd) (i := i + 1) (by omega)]
        exact Ent.refl _
      · rw [hRt] at hr
        rcases List.mem_append.1 hr with hr | hr
        · exact hP r hr
        · rw [List.mem_singleton.1 hr]; exact q'
  · obtain rfl : i = L.length := by omega
    have hpf : partR (L.map Prod.snd) L.length = L.map Prod.snd := by rw [partR, hRl, Nat.sub_self, ← hRl, List.take_length]; simp
    rw [hpf] at hok ⊢
    have hall : (L.map Prod.snd).all (numB (L.map Prod.snd).length) = true := by
      refine List.all_eq_true.2 fun r hr => ?_
      rw [hRl]
      refine hP r ?_
      rw [← hRl, List.take_length]; exact hr
    have hE : loadErr ((q0 : Int) + 1) (L.map Prod.snd) l = ldErr (L.map Prod.snd) ((L.map Prod.snd).getD q0 []) [] l := by
      unfold loadErr
      rw [hall, hRl, hnb, show ((q0 : Int) + 1).toNat - 1 = q0 by omega]; rfl
    rw [hE]
    have hq : (L.map Prod.snd)[q0]? = some ((L.map Prod.snd).getD q0 []) := by rw [List.getD_eq_getElem?_getD, List.getElem?_eq_getElem (by omega)]; rfl
    clear hpl hP hpf hE e0 hall
    generalize (L.map Prod.snd).getD q0 [] = r0 at *
    generalize L.map Prod.snd = R at *
    have hq0' : q0 < R.length := by omega
    clear hr
    (refine sw_exit ?_; refine sn_then_exit ?_; refine sn_loop_exit ?_; refine sn_block_exit ?_; refine sn_then ?_; (iterate 2 refine sw_seq ?_); refine sw_region ?_; (iterate 3 refine so_1 rfl ?_); refine so_nil ?_; refine sn_then ?_; refine sw_block ?_)
    refine sw_loop (S := Nat × List Ev) (fun s => [(0, .int .i64 ((q0 : Int) + 1)), (8, .pointer (some ⟨g, 0, none⟩)), (47, .slice Al l.length cl), (48, .int .i64 (l.length : Int)), (49, .int .i64 (s.1 : Int))])
      (fun s => stM g gr gm ((q0 : Int) + 1) R s.2 F) (fun s => s.1 ≤ l.length ∧ s.2.map nE = (l.take s.1).map nE ∧ ldErr R r0 [] l = ldErr R r0 (l.take s.1) (l.drop s.1)) (fun s => l.length - s.1) (0, []) ⟨rfl, rfl, rfl, rfl, rfl, trivial⟩ (Ent.refl _) ⟨Nat.zero_le _, rfl, rfl⟩ ?_
    rintro ⟨i, K⟩ ⟨hi, hK, hE⟩
    dsimp only at hi hK hE ⊢
    have hKm : ∀ e ∈ K, EvM e := evM_sub hm fun y hy => by
      rw [hK] at hy
      obtain ⟨f, hf, hfe⟩ := List.mem_map.1 hy
      exact List.mem_map.2 ⟨f, List.mem_of_mem_take hf, hfe⟩
    (refine sw_seq ?_; refine sw_region ?_; refine so_1 rfl ?_; refine so_nil ?_; refine sn_then ?_; refine sw_seq ?_)
    refine sw_if rfl (fun h2 => ?_) (fun h2 => ?_)
    · have h2' : i < l.length := by omega
      obtain ⟨gg, oo, rfl⟩ := kl (by omega)
      have hmem := List.getElem_mem h2'
      have hsn : l.take (i + 1) = l.take i ++ [l[i]] := List.take_succ_eq_append_getElem h2'
      have hdr : l.drop i = l[i] :: l.drop (i + 1) := List.drop_eq_getElem_cons h2'
      have hc : ∀ w, Sat b F w → ∀ j, j < 39 → w.cell? ⟨gg, oo + i * 39 + j, none⟩ = (evC l[i])[j]? := fun w H j hj => ev_cell (hl w H) h32 h2' hj
      have her : ∀ w, Sat b F w → ER w l[i] := fun w H => (hl w H).er _ hmem
      have hxm := hm _ hmem
      have hxd := hd _ hmem
      generalize l[i] = e at *
      rw [hdr, ldErr, ← evErr_nE hK, ← hsn] at hE
      have hxl := evC_len hxm.l32
      refine sw_fact (fun w H => er_form (her w (H.ent (ent_keep 4 [] rfl rfl)))) ?_
      rintro ⟨o1, o2⟩
      have hx1 := evC_one o1 o2
      have hyl : (evC (lkE K (dotE e))).length = 39 := evC_len (lkE_m hKm _).l32
      refine sw_fact (fun w H => er_form (lkE_er (k := 3) rfl (dotE e) w H)) ?_
      rintro ⟨y1, y2⟩
      have hy1 := evC_one y1 y2
      (refine sw_skip ?_; refine sn_then ?_; refine sw_seq ?_; refine sw_block ?_; refine sw_seq ?_; refine sw_region ?_; refine so_2 rfl (by omega) ?_)
      refine so_rd rfl (fun w H => ex_loadN (cs := evC e) rfl rfl rfl hxl (fun j hj => by rw [mulz_eq, Int.toNat_natCast]; exact hc w (H.ent (ent_keep 4 [] rfl rfl)) j (by rw [hxl] at hj; exact hj))) rfl ?_
      refine so_new rfl rfl rfl rfl rfl fun g13 => ?_
      refine so_stW 0 rfl rfl rfl rfl rfl rfl rfl hxl hx1 (by rw [hxl]; rfl) ?_
      (refine so_nil ?_; refine sn_then ?_; refine sw_seq ?_)
      obtain ⟨is, his⟩ : ∃ is, (findE K (dotE e)).isSome = is := ⟨_, rfl⟩
      refine sw_draw flo (pt g13 t_api_Event (evC e) :: stM g gr gm ((q0 : Int) + 1) R K F) (by decide +kernel) (Ent.refl _) ?_
      ((iterate 3 refine sd_1 rfl (.inl rfl) ?_); refine sd_l 1 rfl rfl rfl rfl ?_; refine sd_1 rfl (.inl rfl) ?_; refine sd_l 0 rfl rfl rfl rfl ?_)
      refine sd_lookE (a := dotE e) (K := K) 3 dotMK hxd rfl rfl rfl rfl rfl rfl rfl rfl rfl rfl ?_
      rw [his]
      generalize lkE K (dotE e) = y at *
      ((iterate 3 refine sd_1 rfl (.inl rfl) ?_))
      refine sd_new rfl rfl rfl rfl rfl rfl (Ent.refl _) fun g14 => ?_
      refine sd_stW 0 rfl rfl rfl rfl rfl rfl rfl rfl hyl hy1 (by rw [hyl]; rfl) (ent_keep 1 [] rfl rfl) ?_
      (refine sd_1 rfl (.inl rfl) ?_)
      refine sd_nil ?_
      (refine sn_then ?_; refine sw_seq ?_; refine sw_block ?_; refine sw_seq ?_; refine sw_region ?_; refine so_1 rfl ?_)
      refine so_ldA 1 rfl rfl rfl rfl rfl rfl (segO_all (by rw [hxl]; rfl)) rfl ?_
      refine so_callE rfl rfl rfl ((fits_S (F := pt g14 t_stable_kept (evC y) :: pt g13 t_api_Event (evC e) :: F) hok (up her (ent_keep 2 [] rfl rfl))).at (ent_keep 6 [2, 3, 4, 5, 0, 1] rfl rfl) (ent_keep 6 [4, 5, 0, 1, 2, 3] rfl rfl)) ?_
      ((iterate 2 refine so_1 rfl ?_); refine so_nil ?_; refine sn_then ?_)
      refine sw_cond rfl (fun q1 => ?_) (fun q1 => ?_)
      · have q1' : fitB R.length e = false := by simpa using q1
        have ee : evErr R r0 K e = 2 := if_pos q1'
        rw [ee, if_neg (by decide)] at hE
        (refine sw_seq ?_; refine sw_region ?_; (iterate 2 refine so_1 rfl ?_); refine so_nil ?_; refine sn_then ?_; refine sw_ret ?_; refine sn_block_ret ?_; refine sn_then_ret ?_; refine sn_block_ret ?_; refine sn_then_ret ?_; refine sn_loop_ret ?_; refine sn_block_ret ?_; refine sn_then_ret ?_)
        refine sn_ret rfl (.tmp rfl (.tmp rfl .nil)) (ent_keep 6 [] rfl rfl) ?_
        rw [hE]; exact .inl ⟨by decide, rfl, rfl⟩
      have q1' : fitB R.length e = true := by simpa using q1
      (refine sw_seq ?_)
      refine sw_draw flo (pt g13 t_api_Event (evC e) :: stM g gr gm ((q0 : Int) + 1) R K F) (by decide +kernel) (ent_keep 2 [1] rfl rfl) ?_
      ((iterate 2 refine sd_1 rfl (.inl rfl) ?_))
      refine sd_callE rfl rfl rfl rfl (((at_S (F := pt g14 t_stable_kept (evC y) :: pt g13 t_api_Event (evC e) :: F) hok hq0').at (ent_keep 6 [2, 3, 4, 5, 0, 1] rfl rfl) (ent_keep 6 [4, 5, 0, 1, 2, 3] rfl rfl))) (ent_keep 2 [1] rfl rfl) ?_
      (refine sd_1 rfl (.inl rfl) ?_; refine sd_l 0 rfl rfl rfl rfl ?_)
      refine sd_callE rfl rfl rfl rfl ((Has_S (at_VL (k := 3) hok rfl hq))) (ent_keep 2 [1] rfl rfl) ?_
      ((iterate 2 refine sd_1 rfl (.inl rfl) ?_))
      refine sd_nil ?_
      (refine sn_then ?_)
      refine sw_cond rfl (fun q2 => ?_) (fun q2 => ?_)
      · have q2' : hasL r0 e.r e.n = false := by simpa using q2
        have ee : evErr R r0 K e = 25 := by unfold evErr; rw [if_neg (by rw [q1']; simp), if_pos q2']
        rw [ee, if_neg (by decide)] at hE
        (refine sw_seq ?_; refine sw_region ?_; (iterate 2 refine so_1 rfl ?_); refine so_nil ?_; refine sn_then ?_; refine sw_ret ?_; refine sn_block_ret ?_; refine sn_then_ret ?_; refine sn_block_ret ?_; refine sn_then_ret ?_; refine sn_loop_ret ?_; refine sn_block_ret ?_; refine sn_then_ret ?_)
        refine sn_ret rfl (.tmp rfl (.tmp rfl .nil)) (ent_keep 6 [] rfl rfl) ?_
        rw [hE]; exact .inl ⟨by decide, rfl, rfl⟩
      have q2' : hasL r0 e.r e.n = true := by simpa using q2
      (refine sw_seq ?_; refine sw_region ?_; (iterate 2 refine so_1 rfl ?_); refine so_nil ?_; refine sn_then ?_)
      cases is with
      | true =>
        have ee : evErr R r0 K e = 19 := by unfold evErr; rw [if_neg (by rw [q1']; simp), if_neg (by rw [q2']; simp), if_pos his]
        rw [ee, if_neg (by decide)] at hE
        (refine sw_cond_t rfl ?_; refine sw_seq ?_; refine sw_region ?_; (iterate 2 refine so_1 rfl ?_); refine so_nil ?_; refine sn_then ?_; refine sw_ret ?_; refine sn_block_ret ?_; refine sn_then_ret ?_; refine sn_block_ret ?_; refine sn_then_ret ?_; refine sn_loop_ret ?_; refine sn_block_ret ?_; refine sn_then_ret ?_)
        refine sn_ret rfl (.tmp rfl (.tmp rfl .nil)) (ent_keep 6 [] rfl rfl) ?_
        rw [hE]; exact .inl ⟨by decide, rfl, rfl⟩
      | false =>
        have ee : evErr R r0 K e = 0 := by unfold evErr; rw [if_neg (by rw [q1']; simp), if_neg (by rw [q2']; simp), if_neg (by rw [his]; simp)]
        rw [ee, if_pos rfl] at hE
        (refine sw_cond_f rfl ?_; refine sw_skip ?_; refine sn_block ?_; refine sn_then ?_)
        refine sw_draw flo (pt g13 t_api_Event (evC e) :: pt g t_stable_Matrix [.int .i64 ((q0 : Int) + 1), .slice (some ⟨gr, 0, none⟩) R.length R.length, .map (some gm)] :: F) (by decide +kernel) (ent_keep 6 [1, 2] rfl rfl) ?_
        ((iterate 3 refine sd_1 rfl (.inl rfl) ?_); refine sd_l 1 rfl rfl rfl rfl ?_; refine sd_1 rfl (.inl rfl) ?_; refine sd_l 0 rfl rfl rfl rfl ?_)
        refine sd_ldA 0 rfl rfl rfl rfl rfl rfl (segO_all (by rw [hxl]; rfl)) rfl rfl ?_
        refine sd_call rfl rfl rfl rfl (copied_S hxm.l32 (up her (ent_keep 6 [] rfl rfl)) hxm.dn hxm.rn) ?_
        rintro _ _ ⟨dv, rv, rfl, rfl⟩
        refine ⟨ent_keep 8 [3, 4] rfl rfl, ?_⟩
        refine sd_fact (fun w H => (H.oat (k := 0) rfl).form) ?_
        rintro ⟨A2, c2, rfl, _, _, _⟩
        refine sd_fact (fun w H => (H.oat (k := 1) rfl).form) ?_
        rintro ⟨A3, c3, rfl, _, _, _⟩
        have hfn : findE K (dotE e) = none := by simpa using his
        have hzl := evC_len (e := e.own (.slice A2 e.deps.length c2) (.slice A3 e.refs.length c3)) hxm.l32
        have hzn : nE (e.own (.slice A2 e.deps.length c2) (.slice A3 e.refs.length c3)) = nE e := rfl
        have hzd : dotE (e.own (.slice A2 e.deps.length c2) (.slice A3 e.refs.length c3)) = dotE e := rfl
        have hzP : evP (e.own (.slice A2 e.deps.length c2) (.slice A3 e.refs.length c3)) = [rZ (.slice A2 e.deps.length c2) e.deps, rD (.slice A3 e.refs.length c3) e.refs] := rfl
        generalize e.own (.slice A2 e.deps.length c2) (.slice A3 e.refs.length c3) = x at *
        refine sd_B rfl rfl rfl rfl ⟨hzl, trivial⟩ ?_
        refine sd_know 86 (.agg ⟨evC x⟩) rfl rfl ?_
        refine sd_put (a := dotE e) 6 dotMK hxd rfl rfl rfl rfl rfl rfl rfl rfl rfl (ent_keep 8 [3, 4] rfl rfl) ?_
        refine sd_nil ?_
        have hput := putM_eM K (y := x) (by rw [hzd]; exact hfn)
        rw [hzd] at hput
        rw [hput]
        (refine sn_block ?_; refine sn_then ?_; refine sw_region ?_; refine so_2 rfl (by (unfold I64; omega)) ?_; refine so_1 rfl ?_; refine so_nil ?_)
        rw [show (i : Int) + 1 = ((i + 1 : Nat) : Int) by omega]
        refine sn_ent (G := evP x ++ (all (evF K) :: pt g t_stable_Matrix [.int .i64 ((q0 : Int) + 1), .slice (some ⟨gr, 0, none⟩) R.length R.length, .map (some gm)] :: rWr gr R :: mpE gm (K ++ [x]) :: F)) (by rw [hzP]; exact ent_keep 8 [0, 1, 7, 4, 5, 6] rfl rfl) ?_
        refine sn_ent (ent_in (A := evF (K ++ [x])) evF_snoc) ?_
        refine sn_round (i + 1, K ++ [x]) ⟨rfl, rfl, rfl, rfl, rfl, trivial⟩ (ent_keep 4 [1, 2, 3, 0] rfl rfl) ⟨h2', ?_, hE⟩ (by dsimp only; omega)
        dsimp only
        rw [hsn, List.map_append, List.map_append, hK]; simp [hzn]
    · obtain rfl : i = l.length := by omega
      rw [List.take_length] at hK
      rw [List.drop_length] at hE
      (refine sw_exit ?_; refine sn_then_exit ?_; refine sn_loop_exit ?_; refine sn_block_exit ?_; refine sn_then ?_; refine sw_seq ?_; refine sw_region ?_; (iterate 3 refine so_1 rfl ?_); refine so_nil ?_; refine sn_then ?_; refine sw_ret ?_)
      refine sn_ret rfl (.tmp rfl (.tmp rfl .nil)) (Ent.refl _) ?_
      exact .inr ⟨hE, g, gr, gm, K, rfl, hK, rfl⟩
end
end Go.Proofs.Ytajbpdmhpcpkgaa
/- Who has what, part thirteen: the document's matrix in memory; its numbers, what fits, what is found, what all have. Conditions: not too many. -/
namespace Go.Proofs.Ytajbpdmhpcpkgaa
open Go Go.Eng Go.RowKit Go.WideMaps

/-- The document's matrix: rows each in memory of its own, events in order. -/
abbrev stQ (h : Nat) (own : Int) (Ar : Option Addr) (cr n : Nat) (LR : List (Value × List Int)) (Al : Option Addr) (cl k : Nat) (L : List Ev) (F : List SP) : List SP :=
  pt h t_entrepotref24_Matrix [.int .i64 own, .slice Ar n cr, .slice Al k cl] :: rRn Ar cr n LR :: all (vF LR) :: rEn Al cl k L :: all (evF L) :: F
section
variable {b : World} {F : List SP} {v : Value} {xs ys : List Int} {h n k cr cl : Nat} {own : Int} {Ar Al : Option Addr} {LR : List (Value × List Int)} {L : List Ev} {e : Ev}
theorem rHas_S {r n : Int} (h : ∀ w, Sat b F w → VL (Value.int .i64) w v xs) : SC Try.prog n_entrepotref14_Has [v, dotV r n] b F (fun u F' => u = .bool (hasL xs r n) ∧ F' = F) :=
  SC.ofExt fun w H => refHas_spec (h w H)
theorem rMeet_S {va vb : Value} (ha : ∀ w, Sat b F w → VL (Value.int .i64) w va xs) (hb : ∀ w, Sat b F w → VL (Value.int .i64) w vb ys) (hx : xs.length ≤ 1000000) (hy : ys.length ≤ 1000000) : SC Try.prog n_entrepotref14_Meet [va, vb] b F (fun u F' => F' = rZ u (meetL xs ys) :: F) :=
  SC.ofMade fun w H => refMeet_spec (ha w H) (hb w H) (by omega) (by omega)
theorem rJoin_S {va vb : Value} (ha : ∀ w, Sat b F w → VL (Value.int .i64) w va xs) (hb : ∀ w, Sat b F w → VL (Value.int .i64) w vb ys) (hx : xs.length ≤ 1000000) (hy : ys.length ≤ 1000000) : SC Try.prog n_entrepotref14_Join [va, vb] b F (fun u F' => F' = rZ u (joinL xs ys) :: F) :=
  SC.ofMade fun w H => refJoin_spec (ha w H) (hb w H) (by omega) (by omega)
set_option maxRecDepth 20000 in
set_option maxHeartbeats 2000000 in
theorem rnum_S {m : Nat} (h : ∀ w, Sat b F w → VL (Value.int .i64) w v xs) : SC Try.prog n_entrepotref24_numbers [v, .int .i64 m] b F (fun u F' => u = .bool (numB m xs) ∧ F' = F) := by
  refine enterS F_entrepotref24_numbers rfl rfl rfl ?_
  refine sw_fact (fun w H => (h w H).form) ?_
  rintro ⟨A, c, rfl, _, _, _, k4⟩
  (refine sw_seq ?_; refine sw_region ?_; refine so_1 rfl ?_; refine so_nil ?_; refine sn_then ?_; (iterate 2 refine sw_seq ?_); refine sw_region ?_; (iterate 4 refine so_1 rfl ?_); refine so_nil ?_; refine sn_then ?_)
  refine sw_ifn rfl (fun h1 => ?_) (fun h1 => ?_)
  · (refine sw_seq ?_; refine sw_region ?_; refine so_1 rfl ?_; refine so_nil ?_; refine sn_then ?_; refine sw_ret ?_; refine sn_then_ret ?_)
    refine sn_ret rfl (.tmp rfl .nil) (Ent.refl _) ?_
    exact ⟨congrArg Value.bool (by unfold numB; symm; exact decide_eq_false (fun q => h1 (by omega))), rfl⟩
  · have h1' : xs.length = m := by omega
    subst h1'
    (refine sw_skip ?_; refine sn_then ?_; (iterate 2 refine sw_seq ?_); refine sw_region ?_; refine so_1 rfl ?_; refine so_nil ?_; refine sn_then ?_; refine sw_block ?_)
    refine sw_loop (S := Nat) (fun i => [(0, .slice A xs.length c), (1, .int .i64 (xs.length : Int)), (5, .int .i64 (i : Int))]) (fun _ => F) (fun i => i ≤ xs.length ∧ ∀ x ∈ xs.take i, 0 ≤ x ∧ x ≤ 1048576) (fun i => xs.length - i) 0 ⟨rfl, rfl, rfl, trivial⟩ (Ent.refl _) ⟨Nat.zero_le _, fun x hx => by simp at hx⟩ ?_
    rintro i ⟨hi, hP⟩
    ((iterate 2 refine sw_seq ?_); refine sw_region ?_; (iterate 3 refine so_1 rfl ?_); refine so_nil ?_; refine sn_then ?_)
    refine sw_if rfl (fun h2 => ?_) (fun h2 => ?_)
    · have h2' : i < xs.length := by omega
      obtain ⟨gg, oo, rfl⟩ := k4 (by omega)
      have hsn : xs.take (i + 1) = xs.take i ++ [xs[i]] := List.take_succ_eq_append_getElem h2'
      have hm := List.getElem_mem h2'
      have hc : ∀ w, Sat b F w → w.cell? ⟨gg, oo + i, none⟩ = some (.int .i64 xs[i]) := fun w H => VL.at (h w H) i h2'
      generalize xs[i] = x at *
      have bad : ¬ (0 ≤ x ∧ x ≤ 1048576) → numB xs.length xs = false := fun q => by unfold numB; exact decide_eq_false fun ⟨_, hh⟩ => q (hh x hm)
      (refine sw_skip ?_; refine sn_then ?_; refine sw_seq ?_; refine sw_block ?_; refine sw_seq ?_; refine sw_region ?_; (iterate 2 refine so_1 rfl ?_); refine so_2 rfl (by omega) ?_)
      refine so_rd rfl (fun w H => ex_load rfl rfl rfl (by rw [mulz_eq, Int.toNat_natCast, Nat.mul_one]; exact hc w H)) rfl ?_
      ((iterate 2 refine so_1 rfl ?_))
      by_cases q1 : x < 0
      · refine so_know 20 (.bool true) rfl (congrArg Value.bool (decide_eq_true q1)) ?_
        ((iterate 6 refine so_1 rfl ?_); refine so_nil ?_; refine sn_then ?_; refine sw_cond_t rfl ?_; refine sw_seq ?_; refine sw_region ?_; refine so_1 rfl ?_; refine so_nil ?_; refine sn_then ?_; refine sw_ret ?_; refine sn_block_ret ?_; refine sn_then_ret ?_; refine sn_loop_ret ?_; refine sn_block_ret ?_; refine sn_then_ret ?_)
        refine sn_ret rfl (.tmp rfl .nil) (Ent.refl _) ?_
        exact ⟨congrArg Value.bool (bad (by omega)).symm, rfl⟩
      refine so_know 20 (.bool false) rfl (congrArg Value.bool (decide_eq_false q1)) ?_
      ((iterate 2 refine so_1 rfl ?_); refine so_2 rfl (by omega) ?_)
      refine so_rd rfl (fun w H => ex_load rfl rfl rfl (by rw [mulz_eq, Int.toNat_natCast, Nat.mul_one]; exact hc w H)) rfl ?_
      ((iterate 2 refine so_1 rfl ?_); refine so_nil ?_; refine sn_then ?_)
      refine sw_if rfl (fun q2 => ?_) (fun q2 => ?_)
      · (refine sw_seq ?_; refine sw_region ?_; refine so_1 rfl ?_; refine so_nil ?_; refine sn_then ?_; refine sw_ret ?_; refine sn_block_ret ?_; refine sn_then_ret ?_; refine sn_loop_ret ?_; refine sn_block_ret ?_; refine sn_then_ret ?_)
        refine sn_ret rfl (.tmp rfl .nil) (Ent.refl _) ?_
        exact ⟨congrArg Value.bool (bad (by omega)).symm, rfl⟩
      (refine sw_skip ?_; refine sn_block ?_; refine sn_then ?_; refine sw_region ?_; refine so_1 rfl ?_; refine so_2 rfl (by (unfold I64; omega)) ?_; refine so_1 rfl ?_; refine so_nil ?_)
      rw [show (i : Int) + 1 = ((i + 1 : Nat) : Int) by omega]
      refine sn_round (i + 1) ⟨rfl, rfl, rfl, trivial⟩ (Ent.refl _) ⟨h2', fun y hy => ?_⟩ (by omega)
      rw [hsn] at hy
      rcases List.mem_append.1 hy with hy | hy
      · exact hP y hy
      · rw [List.mem_singleton.1 hy]; omega
    · obtain rfl : i = xs.length := by omega
      rw [List.take_length] at hP
      (refine sw_exit ?_; refine sn_then_exit ?_; refine sn_loop_exit ?_; refine sn_block_exit ?_; refine sn_then ?_; refine sw_seq ?_; refine sw_region ?_; refine so_1 rfl ?_; refine so_nil ?_; refine sn_then ?_; refine sw_ret ?_)
      refine sn_ret rfl (.tmp rfl .nil) (Ent.refl _) ?_
      exact ⟨congrArg Value.bool (by unfold numB; symm; exact decide_eq_true ⟨rfl, hP⟩), rfl⟩
set_option maxRecDepth 20000 in
set_option maxHeartbeats 2000000 in
theorem rfits_S {m : Nat} (he : ∀ w, Sat b F w → ER w e) : SC Try.prog n_entrepotref24_fits [evV e, .int .i64 m] b F (fun u F' => u = .bool (fitB m e) ∧ F' = F) := by
  refine enterS F_entrepotref24_fits rfl rfl rfl ?_
  (refine sw_seq ?_; refine sw_region ?_)
  refine so_box rfl rfl rfl rfl rfl fun g2 => ?_
  (refine so_1 rfl ?_; refine so_nil ?_; refine sn_then ?_; refine sw_seq ?_; refine sw_region ?_; (iterate 2 refine so_1 rfl ?_); refine so_l 0 rfl rfl rfl ?_; (iterate 2 refine so_1 rfl ?_))
  by_cases h1 : 1 ≤ e.r
  · refine so_know 9 (.bool true) rfl (congrArg Value.bool (decide_eq_true (by omega))) ?_
    ((iterate 2 refine so_1 rfl ?_); refine so_l 0 rfl rfl rfl ?_; (iterate 4 refine so_1 rfl ?_))
    by_cases h2 : e.r ≤ m
    · have hreg : regB m e.r = true := regB_iff.2 ⟨h1, h2⟩
      refine so_know 16 (.bool true) rfl (congrArg Value.bool (decide_eq_true (by omega))) ?_
      ((iterate 2 refine so_1 rfl ?_); refine so_l 0 rfl rfl rfl ?_; (iterate 3 refine so_1 rfl ?_))
      by_cases h3 : 1 ≤ e.n
      · refine so_know 22 (.bool true) rfl (congrArg Value.bool (decide_eq_true (by omega))) ?_
        ((iterate 2 refine so_1 rfl ?_); refine so_l 0 rfl rfl rfl ?_; (iterate 3 refine so_1 rfl ?_))
        by_cases h4 : e.n ≤ 1048576
        · refine so_know 28 (.bool true) rfl (congrArg Value.bool (decide_eq_true (by omega))) ?_
          (refine so_1 rfl ?_; refine so_l 0 rfl rfl rfl ?_; refine so_1 rfl ?_)
          refine so_callE rfl rfl rfl (rnum_S (up (fun w H => (he w H).dv) (ent_keep 1 [] rfl rfl))) ?_
          ((iterate 2 refine so_1 rfl ?_); refine so_nil ?_; refine sn_then ?_; refine sw_ret ?_)
          refine sn_ret rfl (.tmp rfl .nil) (ent_keep 1 [] rfl rfl) ?_
          exact ⟨congrArg Value.bool (by simp [fitB, hreg, h3, h4]), rfl⟩
        · refine so_know 28 (.bool false) rfl (congrArg Value.bool (decide_eq_false (by omega))) ?_
          ((iterate 6 refine so_1 rfl ?_); refine so_nil ?_; refine sn_then ?_; refine sw_ret ?_)
          refine sn_ret rfl (.tmp rfl .nil) (ent_keep 1 [] rfl rfl) ?_
          exact ⟨congrArg Value.bool (by simp [fitB, h4]), rfl⟩
      · refine so_know 22 (.bool false) rfl (congrArg Value.bool (decide_eq_false (by omega))) ?_
        ((iterate 12 refine so_1 rfl ?_); refine so_nil ?_; refine sn_then ?_; refine sw_ret ?_)
        refine sn_ret rfl (.tmp rfl .nil) (ent_keep 1 [] rfl rfl) ?_
        exact ⟨congrArg Value.bool (by simp [fitB, h3]), rfl⟩
    · have hreg : regB m e.r = false := by unfold regB; exact decide_eq_false (by omega)
      refine so_know 16 (.bool false) rfl (congrArg Value.bool (decide_eq_false (by omega))) ?_
      ((iterate 18 refine so_1 rfl ?_); refine so_nil ?_; refine sn_then ?_; refine sw_ret ?_)
      refine sn_ret rfl (.tmp rfl .nil) (ent_keep 1 [] rfl rfl) ?_
      exact ⟨congrArg Value.bool (by simp [fitB, hreg]), rfl⟩
  · have hreg : regB m e.r = false := by unfold regB; exact decide_eq_false (by omega)
    refine so_know 9 (.bool false) rfl (congrArg Value.bool (decide_eq_false (by omega))) ?_
    ((iterate 25 refine so_1 rfl ?_); refine so_nil ?_; refine sn_then ?_; refine sw_ret ?_)
    refine sn_ret rfl (.tmp rfl .nil) (ent_keep 1 [] rfl rfl) ?_
    exact ⟨congrArg Value.bool (by simp [fitB, hreg]), rfl⟩
set_option maxRecDepth 20000 in
set_option maxHeartbeats 2000000 in
theorem rBound_S (hR : RowsOk (LR.map Prod.snd)) (hn : LR.length = n) : SC Try.prog n_p_entrepotref24_Matrix_Bound [.pointer (some ⟨h, 0, none⟩)] b (stQ h own Ar cr n LR Al cl k L F) (fun u F' => F' = rZ u (boundL (LR.map Prod.snd)) :: stQ h own Ar cr n LR Al cl k L F) := by
  have hRl : (LR.map Prod.snd).length = LR.length := List.length_map _
  have h16 := hR.n16
  have hn1 := hR.n1
  obtain ⟨p0, T, rfl⟩ : ∃ p0 T, LR = p0 :: T := by
    cases LR with
    | nil => simp at hn1
    | cons p T => exact ⟨p, T, rfl⟩
  have hp0 : ∀ p ∈ p0 :: T, p.2.length = n := fun p hp => by rw [hR.rl p.2 (List.mem_map_of_mem hp), hRl, hn]
  subst hn
  have hbl : boundL ((p0 :: T).map Prod.snd) = (T.map Prod.snd).foldl meetL p0.2 := rfl
  rw [hbl]
  clear hbl
  generalize hLR : p0 :: T = LR at *
  have h00 : LR[0]? = some p0 := by rw [← hLR]; rfl
  have hlt : LR.length = T.length + 1 := by rw [← hLR]; rfl
  have hc0 : (LR.map Prod.fst)[0]? = some p0.1 := by rw [List.getElem?_map, h00]; rfl
  have hm0 := List.mem_of_getElem? h00
  refine enterS F_p_entrepotref24_Matrix_Bound rfl rfl rfl ?_
  refine sw_fact (fun w H => (H.oat (k := 1) rfl).form) ?_
  rintro ⟨A', c', hv, _, _, q3⟩
  cases hv
  obtain ⟨gg, oo, rfl⟩ := q3 (by omega)
  (refine sw_seq ?_; refine sw_region ?_; refine so_1 rfl ?_; refine so_nil ?_; refine sn_then ?_; refine sw_seq ?_; refine sw_region ?_; (iterate 3 refine so_1 rfl ?_); refine so_l 0 rfl rfl rfl ?_; refine so_2 rfl (by omega) ?_)
  refine so_rd rfl (fun w H => ex_load rfl rfl rfl (row_cell (k := 1) rfl hc0 w H)) rfl ?_
  (refine so_1 rfl ?_; refine so_nil ?_; refine sn_then ?_; (iterate 2 refine sw_seq ?_); refine sw_region ?_; refine so_1 rfl ?_; refine so_nil ?_; refine sn_then ?_; refine sw_block ?_)
  refine sw_loop (S := Nat × Value × List Int × List SP) (fun s => [(0, .pointer (some ⟨h, 0, none⟩)), (3, s.2.1), (4, .int .i64 (s.1 : Int))])
    (fun s => stQ h own (some ⟨gg, oo, none⟩) cr LR.length LR Al cl k L (s.2.2.2 ++ F)) (fun s => 1 ≤ s.1 ∧ s.1 ≤ LR.length ∧ s.2.2.1 = ((LR.take s.1).drop 1 |>.map Prod.snd).foldl meetL p0.2 ∧ s.2.2.1.length = LR.length ∧ ((s.2.2.2 = [] ∧ s.2.1 = p0.1 ∧ s.2.2.1 = p0.2) ∨ s.2.2.2 = [rZ s.2.1 s.2.2.1])) (fun s => LR.length - s.1) (1, p0.1, p0.2, []) ⟨rfl, rfl, rfl, trivial⟩ (Ent.refl _) ⟨Nat.le_refl _, by dsimp only; omega, ?_, hp0 p0 hm0, .inl ⟨rfl, rfl, rfl⟩⟩ ?_
  · dsimp only
    rw [← hLR]; rfl
  rintro ⟨i, ov, y, G⟩ ⟨hi1, hi, hy, hyl, hG⟩
  dsimp only at hi1 hi hy hyl hG ⊢
  have hov : ∀ w, Sat b (stQ h own (some ⟨gg, oo, none⟩) cr LR.length LR Al cl k L (G ++ F)) w → VL (Value.int .i64) w ov y := by
    rcases hG with ⟨rfl, rfl, rfl⟩ | rfl
    · exact vF_vl (k := 2) rfl hm0
    · exact vlZ (k := 5) rfl
  ((iterate 2 refine sw_seq ?_); refine sw_region ?_; (iterate 4 refine so_1 rfl ?_); refine so_l 0 rfl rfl rfl ?_; (iterate 2 refine so_1 rfl ?_); refine so_nil ?_; refine sn_then ?_)
  refine sw_if rfl (fun h1 => ?_) (fun h1 => ?_)
  · have h1' : i < LR.length := by omega
    have hm := List.getElem_mem h1'
    have hc : (LR.map Prod.fst)[i]? = some LR[i].1 := by rw [List.getElem?_map, List.getElem?_eq_getElem h1']; rfl
    have hsn : ((LR.take (i + 1)).drop 1).map Prod.snd = ((LR.take i).drop 1).map Prod.snd ++ [LR[i].2] := by
      rw [List.take_succ_eq_append_getElem h1', List.drop_append_of_le_length (by rw [List.length_take]; omega), List.map_append]; rfl
    have hxl := hp0 _ hm
    generalize LR[i] = p at *
    (refine sw_skip ?_; refine sn_then ?_; refine sw_seq ?_; refine sw_block ?_; refine sw_region ?_; (iterate 4 refine so_1 rfl ?_); refine so_l 0 rfl rfl rfl ?_; refine so_1 rfl ?_; refine so_2 rfl (by omega) ?_)
    refine so_rd rfl (fun w H => ex_load rfl rfl rfl (by rw [mulz_eq, Int.toNat_natCast, Nat.mul_one]; exact row_cell (k := 1) rfl hc w H)) rfl ?_
    skip
    refine so_call rfl rfl rfl (rMeet_S (xs := y) (ys := p.2) hov (vF_vl (k := 2) rfl hm) (by omega) (by omega)) ?_
    rintro nv _ rfl
    (refine so_1 rfl ?_; refine so_nil ?_; refine sn_block ?_; refine sn_then ?_; refine sw_region ?_; refine so_1 rfl ?_; refine so_2 rfl (by (unfold I64; omega)) ?_; refine so_1 rfl ?_; refine so_nil ?_)
    rw [show (i : Int) + 1 = ((i + 1 : Nat) : Int) by omega]
    refine sn_round (i + 1, nv, meetL y p.2, [rZ nv (meetL y p.2)]) ⟨rfl, rfl, rfl, trivial⟩ ?_ ⟨by dsimp only; omega, h1', ?_, ?_, .inr rfl⟩ (by dsimp only; omega)
    · rcases hG with ⟨rfl, _, _⟩ | rfl
      · exact ent_keep 6 [1, 2, 3, 4, 5, 0] rfl rfl
      · exact ent_keep 7 [1, 2, 3, 4, 5, 0] rfl rfl
    · dsimp only; rw [hsn, List.foldl_append, ← hy]; rfl
    · dsimp only; rw [meetL_len, hyl, hxl, Nat.max_self]
  · obtain rfl : i = LR.length := by omega
    rw [List.take_length] at hy
    have hT : LR.drop 1 = T := by rw [← hLR]; rfl
    rw [hT] at hy
    rw [← hy]
    (refine sw_exit ?_; refine sn_then_exit ?_; refine sn_loop_exit ?_; refine sn_block_exit ?_; refine sn_then ?_; refine sw_seq ?_; refine sw_region ?_; refine so_1 rfl ?_)
    refine so_call rfl rfl rfl (CopyInts_S hov (by omega)) ?_
    rintro cv _ rfl
    (refine so_1 rfl ?_; refine so_nil ?_; refine sn_then ?_; refine sw_ret ?_)
    refine sn_ret rfl (.tmp rfl .nil) (G := rZ cv y :: stQ h own (some ⟨gg, oo, none⟩) cr LR.length LR Al cl k L F) ?_ rfl
    rcases hG with ⟨rfl, _, _⟩ | rfl
    · exact Ent.refl _
    · exact ent_keep 7 [0, 1, 2, 3, 4, 5] rfl rfl
end
end Go.Proofs.Ytajbpdmhpcpkgaa
/- Who has what, part fourteen: the document's matrix: made, asked for an event, told what a region has. Conditions: not too many. -/
namespace Go.Proofs.Ytajbpdmhpcpkgaa
open Go Go.Eng Go.RowKit Go.WideMaps

theorem findE_at {L : List Ev} {d : Int × Int} {i : Nat} (hi : i < L.length) (hn : findE (L.take i) d = none) : findE L d = if dotE L[i] = d then some L[i] else findE (L.drop (i + 1)) d := by
  have e : L = L.take i ++ L[i] :: L.drop (i + 1) := by rw [← List.drop_eq_getElem_cons hi, List.take_append_drop]
  have h1 : findE L d = findE (L.take i ++ L[i] :: L.drop (i + 1)) d := congrArg (findE · d) e
  rw [h1, findE, List.find?_append]
  have h2 : List.find? (fun e => decide (dotE e = d)) (L.take i) = none := hn
  rw [h2, List.find?_cons]
  by_cases h : dotE L[i] = d
  · rw [if_pos h, decide_eq_true h]; rfl
  · rw [if_neg h, decide_eq_false h]; rfl
theorem vF_perm_set {LR : List (Value × List Int)} {q : Nat} (hq : q < LR.length) (p : Value × List Int) : ∃ T, (vF LR).Perm ([rZ LR[q].1 LR[q].2] ++ T) ∧ (vF (LR.set q p)).Perm ([rZ p.1 p.2] ++ T) := by
  have e : LR = LR.take q ++ LR[q] :: LR.drop (q + 1) := by rw [← List.drop_eq_getElem_cons hq, List.take_append_drop]
  have e2 : LR.set q p = LR.take q ++ p :: LR.drop (q + 1) := List.set_eq_take_append_cons_drop ▸ by rw [if_pos hq]
  refine ⟨vF (LR.take q) ++ vF (LR.drop (q + 1)), ?_, ?_⟩
  · have h1 : vF LR = vF (LR.take q ++ LR[q] :: LR.drop (q + 1)) := congrArg vF e
    rw [h1, vF_app, vF]
    exact List.perm_middle
  · rw [e2, vF_app, vF]
    exact List.perm_middle
theorem ent_vset {LR : List (Value × List Int)} {q : Nat} (hq : q < LR.length) (p : Value × List Int) {F : List SP} : Ent (all (vF LR) :: rZ p.1 p.2 :: F) (all (vF (LR.set q p)) :: F) := by
  obtain ⟨T, h1, h2⟩ := vF_perm_set hq p
  exact ((ent_out h1).trans (ent_keep 3 [2, 1] rfl rfl)).trans (ent_in h2)
section
variable {b : World} {F : List SP} {v : Value} {xs ys : List Int} {h n k cr cl : Nat} {own : Int} {Ar Al : Option Addr} {LR : List (Value × List Int)} {L : List Ev} {e : Ev}
set_option maxRecDepth 20000 in
set_option maxHeartbeats 4000000 in
theorem rFind_S {d : Int × Int} (hL : ∀ e ∈ L, EvM e) (hk : L.length = k) (h8 : k ≤ 100000) :
    SC Try.prog n_p_entrepotref24_Matrix_Find [.pointer (some ⟨h, 0, none⟩), dotP d] b (stQ h own Ar cr n LR Al cl k L F) (fun u F' => ∃ y, nE y = nE (lkE L d) ∧ u = .tuple ⟨[evV y, .bool (findE L d).isSome]⟩ ∧ F' = evP y ++ stQ h own Ar cr n LR Al cl k L F) := by
  refine enterS F_p_entrepotref24_Matrix_Find rfl rfl rfl ?_
  (refine sw_seq ?_; refine sw_region ?_)
  refine so_box rfl rfl rfl rfl rfl fun g3 => ?_
  skip
  refine so_new rfl rfl rfl rfl rfl fun g4 => ?_
  (refine so_1 rfl ?_; refine so_nil ?_; refine sn_then ?_; (iterate 2 refine sw_seq ?_); refine sw_region ?_; refine so_1 rfl ?_; refine so_nil ?_; refine sn_then ?_; refine sw_block ?_)
  refine sw_fact (p := ∀ e ∈ L, EvK e) (fun w H e he => by
    have := er_form (evF_er (k := 6) rfl he w H)
    exact ⟨(hL e he).l32, this.1, this.2⟩) fun hLk => ?_
  refine sw_fact (fun w H => (H.oat (k := 5) rfl).form) ?_
  rintro ⟨A', c', hv, _, _, q3⟩
  cases hv
  refine sw_loop (S := Nat) (fun i => [(0, .pointer (some ⟨h, 0, none⟩)), (3, .pointer (some ⟨g3, 0, none⟩)), (4, .pointer (some ⟨g4, 0, none⟩)), (6, .int .i64 (i : Int))])
    (fun _ => pt g4 t_api_Event (evC (evX 0)) :: pt g3 t_api_Dot [.int .i64 d.1, .int .i64 d.2] :: stQ h own Ar cr n LR Al cl k L F) (fun i => i ≤ k ∧ findE (L.take i) d = none) (fun i => k - i) 0 ⟨rfl, rfl, rfl, rfl, trivial⟩ (Ent.refl _) ⟨Nat.zero_le _, rfl⟩ ?_
  rintro i ⟨hi, hn⟩
  ((iterate 2 refine sw_seq ?_); refine sw_region ?_; (iterate 4 refine so_1 rfl ?_); refine so_l 2 rfl rfl rfl ?_; (iterate 2 refine so_1 rfl ?_); refine so_nil ?_; refine sn_then ?_)
  refine sw_if rfl (fun h1 => ?_) (fun h1 => ?_)
  · have h1' : i < L.length := by omega
    obtain ⟨gg, oo, rfl⟩ := q3 (by omega)
    have hfa := findE_at h1' hn
    have hx := List.getElem?_eq_getElem h1'
    have fx := evs_seg hLk hx
    have kx := hLk _ (List.getElem_mem h1')
    have mx := hL _ (List.getElem_mem h1')
    have hm := List.getElem_mem h1'
    have hsn : L.take (i + 1) = L.take i ++ [L[i]] := List.take_succ_eq_append_getElem h1'
    have hcell : ∀ j, j < 39 → (evsC L)[i * 39 + j]? = (evC L[i])[j]? := fun j hj => flC_at (f := evC) (fun e he => evC_len (hLk e he).l32) h1' hj
    generalize L[i] = y at *
    have yl := evC_len kx.l32
    (refine sw_skip ?_; refine sn_then ?_; refine sw_seq ?_; refine sw_block ?_; refine sw_seq ?_)
    refine sw_draw flo _ (by decide +kernel) (Ent.refl _) ?_
    ((iterate 3 refine sd_1 rfl (.inl rfl) ?_); refine sd_l 2 rfl rfl rfl rfl ?_; refine sd_1 rfl (.inl rfl) ?_; refine sd_2 rfl rfl (by omega) ?_; refine sd_1 rfl (.inl rfl) ?_)
    have f2 : ((evsC L).drop (i * 39)).take 2 = [.int .i64 y.r, .int .i64 y.n] := by
      have := congrArg (List.take 2) fx
      rw [List.take_take] at this
      simpa [evC] using this
    refine sd_ldrow 5 (i * 39) rfl rfl rfl rfl rfl rfl rfl rfl (by rw [mulz_eq, Int.toNat_natCast]; rfl) (by omega) f2 rfl ?_
    (refine sd_l 1 rfl rfl rfl rfl ?_)
    refine sd_pu rfl (pu_eqA rfl rfl (eq_dot _ _ _ _)) rfl rfl ?_
    refine sd_nil ?_
    (refine sn_then ?_)
    refine sw_if rfl (fun h2 => ?_) (fun h2 => ?_)
    · have hd : dotE y = d := Prod.ext h2.1 h2.2
      rw [if_pos hd] at hfa
      have hlk : lkE L d = y := by unfold lkE; rw [hfa]; rfl
      (refine sw_seq ?_; refine sw_region ?_; (iterate 3 refine so_1 rfl ?_); refine so_l 2 rfl rfl rfl ?_; refine so_1 rfl ?_; refine so_2 rfl (by omega) ?_)
      refine so_ldrow 5 (i * 39) rfl rfl rfl rfl rfl rfl rfl (by rw [mulz_eq, Int.toNat_natCast]) (by omega) fx (by rw [yl]; rfl) ?_
      refine so_call rfl rfl rfl (CopyEvent_S (evF_er (k := 6) rfl hm) kx.l32 mx.dn mx.rn) ?_
      rintro _ _ ⟨dv, rv, rfl, rfl⟩
      refine so_fact (fun w H => (H.oat (k := 0) rfl).form) ?_
      rintro ⟨A2, c2, rfl, _, _, _⟩
      refine so_fact (fun w H => (H.oat (k := 1) rfl).form) ?_
      rintro ⟨A3, c3, rfl, _, _, _⟩
      have hxl := evC_len (e := y.own (.slice A2 y.deps.length c2) (.slice A3 y.refs.length c3)) kx.l32
      have hx1 := evC_one (e := y.own (.slice A2 y.deps.length c2) (.slice A3 y.refs.length c3)) rfl rfl
      have hxn : nE (y.own (.slice A2 y.deps.length c2) (.slice A3 y.refs.length c3)) = nE y := rfl
      have hxP : evP (y.own (.slice A2 y.deps.length c2) (.slice A3 y.refs.length c3)) = [rZ (.slice A2 y.deps.length c2) y.deps, rD (.slice A3 y.refs.length c3) y.refs] := rfl
      generalize y.own (.slice A2 y.deps.length c2) (.slice A3 y.refs.length c3) = x at *
      skip
      refine so_stW 2 rfl rfl rfl rfl rfl rfl rfl hxl hx1 (by rw [hxl]; rfl) ?_
      (refine so_1 rfl ?_; refine so_nil ?_; refine sn_then ?_; refine sw_ret ?_; refine sn_block_ret ?_; refine sn_then_ret ?_; refine sn_loop_ret ?_; refine sn_block_ret ?_; refine sn_then_ret ?_)
      refine sn_ret rfl (.whole 2 rfl rfl rfl rfl (by rw [hxl]; rfl) (.tmp rfl .nil)) (ent_keep 9 [0, 1, 4, 5, 6, 7, 8] rfl rfl) ?_
      rw [hlk, hfa]
      exact ⟨x, hxn, rfl, by rw [hxP]; rfl⟩
    · have hd : ¬ dotE y = d := fun hh => h2 (by rw [← hh]; exact ⟨rfl, rfl⟩)
      (refine sw_skip ?_; refine sn_block ?_; refine sn_then ?_; refine sw_region ?_; refine so_1 rfl ?_; refine so_2 rfl (by (unfold I64; omega)) ?_; refine so_1 rfl ?_; refine so_nil ?_)
      rw [show (i : Int) + 1 = ((i + 1 : Nat) : Int) by omega]
      refine sn_round (i + 1) ⟨rfl, rfl, rfl, rfl, trivial⟩ (Ent.refl _) ⟨by omega, ?_⟩ (by omega)
      rw [hsn, findE, List.find?_append]
      have h3 : List.find? (fun e => decide (dotE e = d)) (L.take i) = none := hn
      rw [h3, List.find?_cons, decide_eq_false hd]; rfl
  · obtain rfl : i = k := by omega
    rw [← hk, List.take_length] at hn
    have hlk : lkE L d = evX 0 := by unfold lkE; rw [hn]; rfl
    (refine sw_exit ?_; refine sn_then_exit ?_; refine sn_loop_exit ?_; refine sn_block_exit ?_; refine sn_then ?_; refine sw_seq ?_; refine sw_region ?_; refine so_1 rfl ?_; refine so_s1 0 rfl rfl rfl rfl ?_; refine so_1 rfl ?_; refine so_nil ?_; refine sn_then ?_; refine sw_ret ?_)
    refine sn_ret rfl (.whole 0 rfl rfl rfl rfl rfl (.tmp rfl .nil)) ((((ent_row_nil t_int 1 rfl).trans (ent_row_nil t_api_ID 32 rfl)).trans (ent_keep 9 [1, 0, 4, 5, 6, 7, 8] rfl rfl))) ?_
    rw [hlk, hn]
    exact ⟨evX 0, rfl, rfl, rfl⟩
set_option maxRecDepth 20000 in
set_option maxHeartbeats 4000000 in
theorem rSeen_S {r : Int} (hR : RowsOk (LR.map Prod.snd)) (hn : LR.length = n) (hv : ∀ w, Sat b F w → VL (Value.int .i64) w v xs) :
    SC Try.prog n_p_entrepotref24_Matrix_Seen [.pointer (some ⟨h, 0, none⟩), .int .i64 r, v] b (stQ h own Ar cr n LR Al cl k L F) (fun u F' => ∃ LR', LR'.map Prod.snd = (seenT (LR.map Prod.snd) r xs).2 ∧ u = .int .i64 (seenT (LR.map Prod.snd) r xs).1 ∧ F' = stQ h own Ar cr n LR' Al cl k L F) := by
  have hRl : (LR.map Prod.snd).length = LR.length := List.length_map _
  have h16 := hR.n16
  subst hn
  refine enterS F_p_entrepotref24_Matrix_Seen rfl rfl rfl ?_
  (refine sw_seq ?_; refine sw_region ?_; refine so_1 rfl ?_; refine so_nil ?_; refine sn_then ?_; refine sw_seq ?_; refine sw_block ?_; refine sw_seq ?_; refine sw_region ?_; (iterate 3 refine so_1 rfl ?_))
  have hbad : regB LR.length r = false → ∃ LR', LR'.map Prod.snd = (seenT (LR.map Prod.snd) r xs).2 ∧ tupl [Value.int .i64 3] = .int .i64 (seenT (LR.map Prod.snd) r xs).1 ∧ stQ h own Ar cr LR.length LR Al cl k L F = stQ h own Ar cr LR.length LR' Al cl k L F := fun q => by
    have e : seenT (LR.map Prod.snd) r xs = (3, LR.map Prod.snd) := if_pos (by rw [hRl]; exact q)
    rw [e]; exact ⟨LR, rfl, rfl, rfl⟩
  by_cases h1 : r < 1
  · refine so_know 10 (.bool true) rfl (congrArg Value.bool (decide_eq_true h1)) ?_
    ((iterate 9 refine so_1 rfl ?_); refine so_nil ?_; refine sn_then ?_; refine sw_cond_t rfl ?_; refine sw_seq ?_; refine sw_region ?_; refine so_1 rfl ?_; refine so_nil ?_; refine sn_then ?_; refine sw_ret ?_; refine sn_block_ret ?_; refine sn_then_ret ?_)
    refine sn_ret rfl (.tmp rfl .nil) (Ent.refl _) ?_
    exact hbad (by unfold regB; exact decide_eq_false (by omega))
  refine so_know 10 (.bool false) rfl (congrArg Value.bool (decide_eq_false h1)) ?_
  ((iterate 4 refine so_1 rfl ?_); refine so_l 0 rfl rfl rfl ?_; (iterate 4 refine so_1 rfl ?_); refine so_nil ?_; refine sn_then ?_)
  refine sw_if rfl (fun h2 => ?_) (fun h2 => ?_)
  · (refine sw_seq ?_; refine sw_region ?_; refine so_1 rfl ?_; refine so_nil ?_; refine sn_then ?_; refine sw_ret ?_; refine sn_block_ret ?_; refine sn_then_ret ?_)
    refine sn_ret rfl (.tmp rfl .nil) (Ent.refl _) ?_
    exact hbad (by unfold regB; exact decide_eq_false (by omega))
  have q' : regB LR.length r = true := regB_iff.2 ⟨by omega, by omega⟩
  (refine sw_seq ?_; refine sw_region ?_; (iterate 4 refine so_1 rfl ?_); refine so_l 0 rfl rfl rfl ?_; refine so_1 rfl ?_)
  refine so_callE rfl rfl rfl (rnum_S (up hv (ent_keep 5 [] rfl rfl))) ?_
  ((iterate 2 refine so_1 rfl ?_); refine so_nil ?_; refine sn_then ?_)
  refine sw_cond rfl (fun q2 => ?_) (fun q2 => ?_)
  · have q2' : numB LR.length xs = false := by simpa using q2
    (refine sw_seq ?_; refine sw_region ?_; refine so_1 rfl ?_; refine so_nil ?_; refine sn_then ?_; refine sw_ret ?_; refine sn_block_ret ?_; refine sn_then_ret ?_)
    refine sn_ret rfl (.tmp rfl .nil) (Ent.refl _) ?_
    have e : seenT (LR.map Prod.snd) r xs = (2, LR.map Prod.snd) := by unfold seenT; rw [hRl, if_neg (by rw [q']; simp), if_pos q2']
    rw [e]; exact ⟨LR, rfl, rfl, rfl⟩
  have q2' : numB LR.length xs = true := by simpa using q2
  obtain ⟨v1, v2⟩ := numB_iff.1 q2'
  obtain ⟨q0, rfl⟩ : ∃ q0 : Nat, r = (q0 : Int) + 1 := ⟨r.toNat - 1, by omega⟩
  have hq0 : q0 < LR.length := by omega
  have hq : (LR.map Prod.snd)[q0]? = some LR[q0].2 := by rw [List.getElem?_map, List.getElem?_eq_getElem hq0]; rfl
  have e : seenT (LR.map Prod.snd) ((q0 : Int) + 1) xs = (0, (LR.map Prod.snd).set q0 (joinL LR[q0].2 xs)) := by
    unfold seenT
    rw [hRl, if_neg (by rw [q']; simp), if_neg (by rw [q2']; simp), show ((q0 : Int) + 1).toNat - 1 = q0 by omega, List.getD_eq_getElem?_getD, hq]; rfl
  rw [e]
  have hm := List.getElem_mem hq0
  have hxl : LR[q0].2.length = LR.length := by rw [hR.rl _ (List.mem_map_of_mem hm), hRl]
  have hc : (LR.map Prod.fst)[q0]? = some LR[q0].1 := by rw [List.getElem?_map, List.getElem?_eq_getElem hq0]; rfl
  have hset : ∀ nv : Value, spl (LR.map Prod.fst) q0 [nv] = (LR.set q0 (nv, joinL LR[q0].2 xs)).map Prod.fst := fun nv => by
    rw [spl, List.map_set, List.set_eq_take_append_cons_drop, if_pos (by rw [List.length_map]; exact hq0)]; simp
  have e8 : ((q0 : Int) + 1 - 1).toNat = q0 := by omega
  refine sw_fact (fun w H => (H.oat (k := 1) rfl).form) ?_
  rintro ⟨A', c', hv', _, _, q3⟩
  cases hv'
  obtain ⟨gg, oo, rfl⟩ := q3 (by omega)
  have hvs : ∀ {p : Value × List Int} {F : List SP}, Ent (all (vF LR) :: rZ p.1 p.2 :: F) (all (vF (LR.set q0 p)) :: F) := fun {p} {F} => ent_vset hq0 p
  have hsn : ∀ p : Value × List Int, (LR.set q0 p).map Prod.snd = (LR.map Prod.snd).set q0 p.2 := fun p => List.map_set
  generalize LR[q0] = p at *
  (refine sw_skip ?_; refine sn_block ?_; refine sn_then ?_; refine sw_seq ?_)
  refine sw_draw2 flo 17 _ [] rfl (by decide +kernel) (Ent.refl _) ?_
  ((iterate 3 refine sd_1 rfl (.inl rfl) ?_); refine sd_l 0 rfl rfl rfl rfl ?_; refine sd_1 rfl (.inl rfl) ?_; refine sd_2 rfl rfl (by (unfold I64; omega)) ?_; (iterate 3 refine sd_1 rfl (.inl rfl) ?_); refine sd_l 0 rfl rfl rfl rfl ?_; refine sd_1 rfl (.inl rfl) ?_; refine sd_2 rfl rfl (by (unfold I64; omega)) ?_; refine sd_2 rfl rfl (by omega) ?_)
  refine sd_rd rfl (fun w H => ex_load rfl rfl rfl (by rw [mulz_eq, e8, Nat.mul_one]; exact row_cell (k := 1) rfl hc w H)) rfl rfl ?_
  (refine sd_1 rfl (.inl rfl) ?_)
  refine sd_call rfl rfl rfl rfl (rJoin_S (xs := p.2) (ys := xs) (vF_vl (k := 2) rfl hm) (up hv (ent_keep 5 [] rfl rfl)) (by omega) (by omega)) ?_
  rintro jv _ rfl
  refine ⟨ent_keep 1 [] rfl rfl, ?_⟩
  refine sd_fact (fun w H => (H.oat (k := 0) rfl).form) ?_
  rintro ⟨Aj, cj, rfl, _, _, _⟩
  (refine sd_2 rfl rfl (by omega) ?_)
  refine sd_nil (sn_draw2 rfl (ent_nil _) ?_)
  refine sd_strow 2 q0 rfl rfl rfl rfl rfl rfl rfl rfl rfl (hset _) rfl (by rw [mulz_eq, e8, Nat.mul_one]) (by rw [List.length_map]; exact hq0) (by simp [Value.oneCell']) (ent_nil _) ?_
  refine sd_nil ?_
  (refine sn_then ?_; refine sw_seq ?_; refine sw_region ?_; refine so_1 rfl ?_; refine so_nil ?_; refine sn_then ?_; refine sw_ret ?_)
  refine sn_ret rfl (.tmp rfl .nil) ((ent_keep 6 [3, 0, 1, 2, 4, 5] rfl rfl).trans ((hvs (p := (.slice Aj (joinL p.2 xs).length cj, joinL p.2 xs))).trans (ent_keep 5 [1, 2, 0, 3, 4] rfl rfl))) ?_
  exact ⟨LR.set q0 (.slice Aj (joinL p.2 xs).length cj, joinL p.2 xs), hsn _, rfl, rfl⟩
end
end Go.Proofs.Ytajbpdmhpcpkgaa
/- Who has what, part fifteen: the document's matrix is made; events copied. Conditions: not too many. -/
namespace Go.Proofs.Ytajbpdmhpcpkgaa
open Go Go.Eng Go.RowKit Go.WideMaps

section
variable {b : World} {F : List SP} {v : Value} {l : List Ev}
set_option maxRecDepth 20000 in
theorem rNew_bad {n own : Int} (h : ¬ (1 ≤ n ∧ n ≤ 16 ∧ 1 ≤ own ∧ own ≤ n)) : SC Try.prog n_entrepotref24_New [.int .i64 n, .int .i64 own] b F (fun u F' => u = .tuple ⟨[.pointer none, .int .i64 3]⟩ ∧ F' = F) := by
  refine enterS F_entrepotref24_New rfl rfl rfl ?_
  (refine sw_seq ?_; refine sw_region ?_; (iterate 2 refine so_1 rfl ?_); refine so_nil ?_; refine sn_then ?_; (iterate 2 refine sw_seq ?_); refine sw_region ?_; (iterate 3 refine so_1 rfl ?_))
  by_cases h1 : n < 1
  · refine so_know 10 (.bool true) rfl (congrArg Value.bool (decide_eq_true h1)) ?_
    ((iterate 12 refine so_1 rfl ?_); refine so_nil ?_; refine sn_then ?_; refine sw_cond_t rfl ?_; refine sw_seq ?_; refine sw_region ?_; (iterate 2 refine so_1 rfl ?_); refine so_nil ?_; refine sn_then ?_; refine sw_ret ?_; refine sn_then_ret ?_)
    refine sn_ret rfl (.tmp rfl (.tmp rfl .nil)) (Ent.refl _) ?_
    exact ⟨rfl, rfl⟩
  refine so_know 10 (.bool false) rfl (congrArg Value.bool (decide_eq_false h1)) ?_
  ((iterate 4 refine so_1 rfl ?_))
  by_cases h2 : 16 < n
  · refine so_know 14 (.bool true) rfl (congrArg Value.bool (decide_eq_true h2)) ?_
    ((iterate 8 refine so_1 rfl ?_); refine so_nil ?_; refine sn_then ?_; refine sw_cond_t rfl ?_; refine sw_seq ?_; refine sw_region ?_; (iterate 2 refine so_1 rfl ?_); refine so_nil ?_; refine sn_then ?_; refine sw_ret ?_; refine sn_then_ret ?_)
    refine sn_ret rfl (.tmp rfl (.tmp rfl .nil)) (Ent.refl _) ?_
    exact ⟨rfl, rfl⟩
  refine so_know 14 (.bool false) rfl (congrArg Value.bool (decide_eq_false h2)) ?_
  ((iterate 4 refine so_1 rfl ?_))
  by_cases h3 : own < 1
  · refine so_know 18 (.bool true) rfl (congrArg Value.bool (decide_eq_true h3)) ?_
    ((iterate 4 refine so_1 rfl ?_); refine so_nil ?_; refine sn_then ?_; refine sw_cond_t rfl ?_; refine sw_seq ?_; refine sw_region ?_; (iterate 2 refine so_1 rfl ?_); refine so_nil ?_; refine sn_then ?_; refine sw_ret ?_; refine sn_then_ret ?_)
    refine sn_ret rfl (.tmp rfl (.tmp rfl .nil)) (Ent.refl _) ?_
    exact ⟨rfl, rfl⟩
  refine so_know 18 (.bool false) rfl (congrArg Value.bool (decide_eq_false h3)) ?_
  ((iterate 4 refine so_1 rfl ?_); refine so_nil ?_; refine sn_then ?_)
  refine sw_if rfl (fun h4 => ?_) (fun h4 => by omega)
  (refine sw_seq ?_; refine sw_region ?_; (iterate 2 refine so_1 rfl ?_); refine so_nil ?_; refine sn_then ?_; refine sw_ret ?_; refine sn_then_ret ?_)
  refine sn_ret rfl (.tmp rfl (.tmp rfl .nil)) (Ent.refl _) ?_
  exact ⟨rfl, rfl⟩
set_option maxRecDepth 20000 in
set_option maxHeartbeats 2000000 in
theorem rNew_S {n : Nat} {own : Int} (hb : newB n own = true) : SC Try.prog n_entrepotref24_New [.int .i64 n, .int .i64 own] b F (fun u F' => ∃ h Ar cr LR, LR.map Prod.snd = List.replicate n (List.replicate n 0) ∧ u = .tuple ⟨[.pointer (some ⟨h, 0, none⟩), .int .i64 0]⟩ ∧ F' = stQ h own Ar cr n LR none 0 0 [] F) := by
  obtain ⟨a1, a2, a3, a4⟩ := newB_iff.1 hb
  refine enterS F_entrepotref24_New rfl rfl rfl ?_
  (refine sw_seq ?_; refine sw_region ?_; (iterate 2 refine so_1 rfl ?_); refine so_nil ?_; refine sn_then ?_; (iterate 2 refine sw_seq ?_); refine sw_region ?_; (iterate 3 refine so_1 rfl ?_))
  refine so_know 10 (.bool false) rfl (congrArg Value.bool (decide_eq_false (by omega))) ?_
  ((iterate 4 refine so_1 rfl ?_))
  refine so_know 14 (.bool false) rfl (congrArg Value.bool (decide_eq_false (by omega))) ?_
  ((iterate 4 refine so_1 rfl ?_))
  refine so_know 18 (.bool false) rfl (congrArg Value.bool (decide_eq_false (by omega))) ?_
  ((iterate 4 refine so_1 rfl ?_); refine so_nil ?_; refine sn_then ?_)
  refine sw_if rfl (fun h4 => by omega) (fun _ => ?_)
  (refine sw_skip ?_; refine sn_then ?_; refine sw_seq ?_; refine sw_region ?_; (iterate 2 refine so_1 rfl ?_))
  refine so_box rfl rfl rfl rfl rfl fun h => ?_
  (refine so_1 rfl ?_; refine so_nil ?_; refine sn_then ?_; (iterate 2 refine sw_seq ?_); refine sw_region ?_; refine so_1 rfl ?_; refine so_nil ?_; refine sn_then ?_; refine sw_block ?_)
  refine sw_loop (S := Nat × List (Value × List Int) × Option Addr × Nat) (fun s => [(0, .int .i64 (n : Int)), (6, .pointer (some ⟨h, 0, none⟩)), (7, .int .i64 (s.1 : Int))])
    (fun s => pt h t_entrepotref24_Matrix [.int .i64 own, .slice s.2.2.1 s.1 s.2.2.2, .slice none 0 0] :: rRn s.2.2.1 s.2.2.2 s.1 s.2.1 :: all (vF s.2.1) :: F) (fun s => s.1 ≤ n ∧ s.2.1.map Prod.snd = List.replicate s.1 (List.replicate n 0)) (fun s => n - s.1) (0, [], none, 0) ⟨rfl, rfl, rfl, trivial⟩ ?_ ⟨Nat.zero_le _, rfl⟩ ?_
  · exact (ent_close (G := [])).trans ((ent_row_nil t_sl_int 1 rfl).trans (ent_keep 3 [2, 0, 1] rfl rfl))
  rintro ⟨i, LR, A, c⟩ ⟨hi, hLR⟩
  dsimp only at hi hLR ⊢
  ((iterate 2 refine sw_seq ?_); refine sw_region ?_; (iterate 3 refine so_1 rfl ?_); refine so_nil ?_; refine sn_then ?_)
  refine sw_if rfl (fun h1 => ?_) (fun h1 => ?_)
  · (refine sw_skip ?_; refine sn_then ?_; refine sw_seq ?_; refine sw_block ?_)
    refine sw_draw2 flo 11 (pt h t_entrepotref24_Matrix [.int .i64 own, .slice A i c, .slice none 0 0] :: F) [] rfl (by decide +kernel) (ent_keep 3 [0] rfl rfl) ?_
    ((iterate 4 refine sd_1 rfl (.inl rfl) ?_); refine sd_l 0 rfl rfl rfl rfl ?_; refine sd_1 rfl (.inl rfl) ?_)
    refine sd_make (sz := 1) (n := (List.replicate n (0 : Int)).length) (cs := ints (List.replicate n 0)) rfl rfl rfl rfl rfl rfl rfl rfl rfl (by rw [List.length_replicate]) (by rw [List.length_replicate]; omega) (by exact (made_same (z := .int .i64 0) 0 rfl _).trans (by simp [ints])) (ent_keep 3 [0] rfl rfl) fun gm => ?_
    refine sd_lit [.slice (some ⟨gm, 0, none⟩) (List.replicate n (0 : Int)).length (List.replicate n (0 : Int)).length] rfl rfl rfl rfl rfl rfl rfl rfl rfl rfl (ent_keep 4 [1] rfl rfl) fun gl => ?_
    skip
    refine sd_append 3 rfl rfl rfl rfl rfl rfl rfl rfl rfl rfl (m := 1) (news := [.slice (some ⟨gm, 0, none⟩) (List.replicate n (0 : Int)).length (List.replicate n (0 : Int)).length]) (fun w H => (H.blk (k := 0) rfl).sl rfl (by decide)) (by simp [Value.oneCell']) (by omega) (fun _ => rfl) (fun _ => ent_keep 5 [2] rfl rfl) fun v' => ?_
    refine sd_fact (fun w H => (H.oat (k := 3) rfl).form) ?_
    rintro ⟨A', c', rfl, _, _, _⟩
    ((iterate 2 refine sd_1 rfl (.inl rfl) ?_))
    refine sd_nil (sn_draw2 rfl (ent_nil _) ?_)
    skip
    refine sd_st 2 rfl rfl rfl rfl rfl rfl rfl rfl rfl rfl rfl (ent_nil _) ?_
    refine sd_nil ?_
    (refine sn_block ?_; refine sn_then ?_; refine sw_region ?_; refine so_1 rfl ?_; refine so_2 rfl (by (unfold I64; omega)) ?_; refine so_1 rfl ?_; refine so_nil ?_)
    rw [show (i : Int) + 1 = ((i + 1 : Nat) : Int) by omega]
    refine sn_ent (G := [rZ (.slice (some ⟨gm, 0, none⟩) (List.replicate n (0 : Int)).length (List.replicate n (0 : Int)).length) (List.replicate n 0)] ++ all (vF LR) :: pt h t_entrepotref24_Matrix [.int .i64 own, .slice A' (i + 1) c', .slice none 0 0] :: rRn A' c' (i + 1) (LR ++ [(.slice (some ⟨gm, 0, none⟩) (List.replicate n (0 : Int)).length (List.replicate n (0 : Int)).length, List.replicate n 0)]) :: F) ?_ ?_
    · simp only [rRn, List.map_append, List.map_cons, List.map_nil]
      exact ent_keep 5 [1, 4, 2, 3] rfl rfl
    refine sn_ent (ent_in (A := vF (LR ++ [(.slice (some ⟨gm, 0, none⟩) (List.replicate n (0 : Int)).length (List.replicate n (0 : Int)).length, List.replicate n 0)])) vF_snoc) ?_
    refine sn_round (i + 1, _, A', c') ⟨rfl, rfl, rfl, trivial⟩ (ent_keep 3 [1, 2, 0] rfl rfl) ⟨by dsimp only; omega, ?_⟩ (by dsimp only; omega)
    dsimp only
    rw [List.map_append, hLR, List.replicate_succ']; rfl
  · obtain rfl : i = n := by omega
    (refine sw_exit ?_; refine sn_then_exit ?_; refine sn_loop_exit ?_; refine sn_block_exit ?_; refine sn_then ?_; refine sw_seq ?_; refine sw_region ?_; (iterate 3 refine so_1 rfl ?_); refine so_nil ?_; refine sn_then ?_; refine sw_ret ?_)
    refine sn_ret rfl (.tmp rfl (.tmp rfl .nil)) (((ent_close (G := [])).trans ((ent_row_nil t_api_Event 39 rfl).trans (ent_keep 5 [2, 3, 4, 0, 1] rfl rfl)))) ?_
    exact ⟨h, A, c, LR, hLR, rfl, rfl⟩
set_option maxRecDepth 20000 in
set_option maxHeartbeats 2000000 in
theorem CopyEvents_S (hl : ∀ w, Sat b F w → EL w v l) (hk : ∀ e ∈ l, EvM e) (hn : l.length ≤ 100000) :
    SC Try.prog n_entrepotkit_CopyEvents [v] b F (fun u F' => ∃ D, D.map nE = l.map nE ∧ F' = rEs u D :: all (evF D) :: F) := by
  have h32 : ∀ e ∈ l, e.id.length = 32 := fun e he => (hk e he).l32
  refine enterS F_entrepotkit_CopyEvents rfl rfl rfl ?_
  refine sw_fact (fun w H => sl_form (hl w H).sl) ?_
  rintro ⟨A0, c0, rfl, _, _, _, k4, _⟩
  (refine sw_seq ?_; refine sw_region ?_; refine so_1 rfl ?_; refine so_nil ?_; refine sn_then ?_; refine sw_seq ?_; refine sw_region ?_; refine so_1 rfl ?_; refine so_nil ?_; refine sn_then ?_; (iterate 2 refine sw_seq ?_); refine sw_region ?_; refine so_1 rfl ?_; refine so_nil ?_; refine sn_then ?_; refine sw_block ?_)
  refine sw_loop (S := Nat × List Ev × Nat × Option Addr × Nat) (fun s => [(0, .slice A0 l.length c0), (3, .slice s.2.2.2.1 s.2.2.1 s.2.2.2.2), (4, .int .i64 (s.1 : Int))])
    (fun s => rEn s.2.2.2.1 s.2.2.2.2 s.2.2.1 s.2.1 :: all (evF s.2.1) :: F) (fun s => s.1 ≤ l.length ∧ s.2.1.map nE = (l.take s.1).map nE ∧ s.2.1.length = s.2.2.1) (fun s => l.length - s.1) (0, [], 0, none, 0) ⟨rfl, rfl, rfl, trivial⟩ ?_ ⟨Nat.zero_le _, rfl, rfl⟩ ?_
  · exact (ent_close (G := [])).trans (ent_row_nil t_api_Event 39 rfl)
  rintro ⟨i, S, o, A, c⟩ ⟨hi1, hS, ho⟩
  dsimp only at hi1 hS ho ⊢
  have hSl : S.length = i := by have := congrArg List.length hS; rw [List.length_map, List.length_map, List.length_take] at this; omega
  subst ho
  ((iterate 2 refine sw_seq ?_); refine sw_region ?_; (iterate 4 refine so_1 rfl ?_); refine so_nil ?_; refine sn_then ?_)
  refine sw_if rfl (fun h1 => ?_) (fun h1 => ?_)
  · have h1' : i < l.length := by omega
    obtain ⟨gg, oo, rfl⟩ := k4 (by omega)
    have hmem := List.getElem_mem h1'
    have hsn : (l.take (i + 1)).map nE = (l.take i).map nE ++ [nE l[i]] := by rw [List.take_succ_eq_append_getElem h1', List.map_append]; rfl
    have hc : ∀ w, Sat b F w → ∀ j, j < 39 → w.cell? ⟨gg, oo + i * 39 + j, none⟩ = (evC l[i])[j]? := fun w H j hj => ev_cell (hl w H) h32 h1' hj
    have her : ∀ w, Sat b F w → ER w l[i] := fun w H => (hl w H).er _ hmem
    obtain ⟨hx32, hxd, hxr⟩ := hk _ hmem
    generalize l[i] = x at *
    have xl := evC_len hx32
    (refine sw_skip ?_; refine sn_then ?_; refine sw_seq ?_; refine sw_block ?_; refine sw_region ?_; (iterate 3 refine so_1 rfl ?_); refine so_2 rfl (by omega) ?_)
    refine so_rd rfl (fun w H => ex_loadN (cs := evC x) rfl rfl rfl xl (fun j hj => by rw [mulz_eq, Int.toNat_natCast]; exact hc w (H.ent (ent_keep 2 [] rfl rfl)) j (by rw [xl] at hj; exact hj))) rfl ?_
    refine so_call rfl rfl rfl (CopyEvent_S (up her (ent_keep 2 [] rfl rfl)) hx32 hxd hxr) ?_
    rintro _ _ ⟨dv, rv, rfl, rfl⟩
    refine so_fact (fun w H => (H.oat (k := 0) rfl).form) ?_
    rintro ⟨A2, c2, rfl, _, _, _⟩
    refine so_fact (fun w H => (H.oat (k := 1) rfl).form) ?_
    rintro ⟨A3, c3, rfl, _, _, _⟩
    have hyl := evC_len (e := x.own (.slice A2 x.deps.length c2) (.slice A3 x.refs.length c3)) hx32
    have hy1 := evC_one (e := x.own (.slice A2 x.deps.length c2) (.slice A3 x.refs.length c3)) rfl rfl
    have hyn : nE (x.own (.slice A2 x.deps.length c2) (.slice A3 x.refs.length c3)) = nE x := rfl
    have hyP : evP (x.own (.slice A2 x.deps.length c2) (.slice A3 x.refs.length c3)) = [rZ (.slice A2 x.deps.length c2) x.deps, rD (.slice A3 x.refs.length c3) x.refs] := rfl
    generalize x.own (.slice A2 x.deps.length c2) (.slice A3 x.refs.length c3) = y at *
    refine so_lit1 rfl rfl rfl rfl rfl rfl rfl hyl (by decide) fun gl => ?_
    refine so_append 3 rfl rfl rfl rfl rfl rfl rfl rfl rfl (m := 1) (news := evC y) (fun w H => (H.blk (k := 0) rfl).sl (by rw [hyl]) (by decide)) hy1 (by omega) (fun _ => rfl) fun v' => ?_
    refine so_fact (fun w H => (H.oat (k := 3) rfl).form) ?_
    rintro ⟨A', c', rfl, _, _, _⟩
    (refine so_1 rfl ?_; refine so_nil ?_; refine sn_block ?_; refine sn_then ?_; refine sw_region ?_; refine so_1 rfl ?_; refine so_2 rfl (by (unfold I64; omega)) ?_; refine so_1 rfl ?_; refine so_nil ?_)
    rw [show (i : Int) + 1 = ((i + 1 : Nat) : Int) by omega]
    refine sn_ent (G := evP y ++ all (evF S) :: rEn A' c' (S.length + 1) (S ++ [y]) :: F) (by
      have e : evsC (S ++ [y]) = evsC S ++ evC y := by rw [evsC, flC_app, flC, flC, List.append_nil]
      rw [hyP, rEn, e]; exact ent_keep 5 [1, 2, 4, 3] rfl rfl) ?_
    refine sn_ent (ent_in (A := evF (S ++ [y])) evF_snoc) ?_
    refine sn_round (i + 1, S ++ [y], S.length + 1, A', c') ⟨rfl, rfl, rfl, trivial⟩ (ent_keep 2 [1, 0] rfl rfl) ⟨by dsimp only; omega, ?_, by simp⟩ (by dsimp only; omega)
    dsimp only
    rw [List.map_append, hS, hsn, ← hyn]; rfl
  · obtain rfl : i = l.length := by omega
    rw [List.take_length] at hS
    (refine sw_exit ?_; refine sn_then_exit ?_; refine sn_loop_exit ?_; refine sn_block_exit ?_; refine sn_then ?_; refine sw_seq ?_; refine sw_region ?_; (iterate 2 refine so_1 rfl ?_); refine so_nil ?_; refine sn_then ?_; refine sw_ret ?_)
    refine sn_ret rfl (.tmp rfl .nil) (Ent.refl _) ?_
    exact ⟨S, hS, rfl⟩
end
end Go.Proofs.Ytajbpdmhpcpkgaa
/- Who has what, part sixteen: the document's matrix: Keep, Collect, Give. Conditions: not too many. -/
namespace Go.Proofs.Ytajbpdmhpcpkgaa
open Go Go.Eng Go.RowKit Go.WideMaps

section
variable {b : World} {F : List SP} {v : Value} {xs ys : List Int} {h n k cr cl : Nat} {own : Int} {Ar Al : Option Addr} {LR : List (Value × List Int)} {L : List Ev} {e : Ev}
set_option maxRecDepth 20000 in
set_option maxHeartbeats 4000000 in
theorem rKeep_S (hR : RowsOk (LR.map Prod.snd)) (hn : LR.length = n) (ho : regB n own = true) (hL : ∀ e ∈ L, EvM e) (hk : L.length = k) (h8 : k < 100000) (he : ∀ w, Sat b F w → ER w e) (hm : EvM e) :
    SC Try.prog n_p_entrepotref24_Matrix_Keep [.pointer (some ⟨h, 0, none⟩), evV e] b (stQ h own Ar cr n LR Al cl k L F) (fun u F' => u = .tuple ⟨[.bool (keepB own (LR.map Prod.snd) L e).1.1, .int .i64 (keepB own (LR.map Prod.snd) L e).1.2]⟩ ∧
      (((keepB own (LR.map Prod.snd) L e).2 = false ∧ F' = stQ h own Ar cr n LR Al cl k L F) ∨ ((keepB own (LR.map Prod.snd) L e).2 = true ∧ ∃ D Al' cl', IsSort (L.map nE ++ [nE e]) (D.map nE) ∧ F' = stQ h own Ar cr n LR Al' cl' D.length D F))) := by
  subst hk
  have h32 := hm.l32
  have hdn := hm.dn
  have hrn := hm.rn
  have hel := evC_len h32
  have hRl : (LR.map Prod.snd).length = n := by rw [List.length_map, hn]
  have h16 := hR.n16
  obtain ⟨o1, o2⟩ := regB_iff.1 ho
  obtain ⟨q0, rfl⟩ : ∃ q0 : Nat, own = (q0 : Int) + 1 := ⟨own.toNat - 1, by omega⟩
  have hq0 : q0 < LR.length := by omega
  have e8 : ((q0 : Int) + 1 - 1).toNat = q0 := by omega
  have hq : (LR.map Prod.snd)[q0]? = some LR[q0].2 := by rw [List.getElem?_map, List.getElem?_eq_getElem hq0]; rfl
  have hc : (LR.map Prod.fst)[q0]? = some LR[q0].1 := by rw [List.getElem?_map, List.getElem?_eq_getElem hq0]; rfl
  have hmq := List.getElem_mem hq0
  have hkB : keepB ((q0 : Int) + 1) (LR.map Prod.snd) L e = if fitB n e = false then ((false, 2), false) else if hasL LR[q0].2 e.r e.n = false then ((false, 25), false) else if ((findE L (dotE e)).isSome || hasL (boundL (LR.map Prod.snd)) e.r e.n) = true then ((false, 0), false) else ((true, 0), true) := by
    unfold keepB
    rw [hRl, show ((q0 : Int) + 1).toNat - 1 = q0 by omega, List.getD_eq_getElem?_getD, hq]; rfl
  rw [hkB]
  clear hkB
  generalize LR[q0] = p at *
  refine enterS F_p_entrepotref24_Matrix_Keep rfl rfl rfl ?_
  (refine sw_seq ?_; refine sw_region ?_)
  refine so_box rfl rfl rfl rfl rfl fun g3 => ?_
  ((iterate 2 refine so_1 rfl ?_); refine so_nil ?_; refine sn_then ?_; refine sw_seq ?_; refine sw_region ?_; (iterate 2 refine so_1 rfl ?_); refine so_l 0 rfl rfl rfl ?_)
  refine so_call rfl rfl rfl ((rFind_S (F := pt g3 t_api_Event (evC e) :: F) (d := dotE e) hL rfl (by omega)).ent (ent_keep 6 [1, 2, 3, 4, 5, 0] rfl rfl)) ?_
  rintro _ _ ⟨y, hyn, rfl, rfl⟩
  have hym : EvM y := (lkE_m hL (dotE e)).nE hyn
  have hyl : (evC y).length = 39 := evC_len hym.l32
  refine so_fact (fun w H => (H.oat (k := 0) rfl).form) ?_
  rintro ⟨A2, c2, hdv, _, _, _⟩
  refine so_fact (fun w H => (H.oat (k := 1) rfl).form) ?_
  rintro ⟨A3, c3, hrv, _, _, _⟩
  have hy1 := evC_one (e := y) (by rw [hdv]; rfl) (by rw [hrv]; rfl)
  refine so_ent (G := pt g3 t_api_Event (evC e) :: stQ h ((q0 : Int) + 1) Ar cr n LR Al cl L.length L F) (ent_keep 8 [7, 2, 3, 4, 5, 6] rfl rfl) ?_
  clear hdv hrv
  ((iterate 3 refine so_1 rfl ?_))
  refine so_new rfl rfl rfl rfl rfl fun g6 => ?_
  refine so_stW 0 rfl rfl rfl rfl rfl rfl rfl hyl hy1 (by rw [hyl]; rfl) ?_
  (refine so_1 rfl ?_; refine so_nil ?_; refine sn_then ?_; refine sw_seq ?_; refine sw_block ?_; refine sw_seq ?_)
  refine sw_draw flo (pt g3 t_api_Event (evC e) :: stQ h ((q0 : Int) + 1) Ar cr n LR Al cl L.length L F) (by decide +kernel) (ent_keep 1 [] rfl rfl) ?_
  skip
  refine sd_ldA 0 rfl rfl rfl rfl rfl rfl (segO_all (by rw [hel]; rfl)) rfl rfl ?_
  ((iterate 3 refine sd_1 rfl (.inl rfl) ?_); refine sd_l 1 rfl rfl rfl rfl ?_; refine sd_1 rfl (.inl rfl) ?_)
  refine sd_callE rfl rfl rfl rfl ((rfits_S (up he (ent_keep 7 [] rfl rfl)))) (ent_keep 1 [] rfl rfl) ?_
  ((iterate 2 refine sd_1 rfl (.inl rfl) ?_))
  refine sd_nil ?_
  (refine sn_then ?_)
  refine sw_cond rfl (fun q1 => ?_) (fun q1 => ?_)
  · have q1' : fitB n e = false := by simpa using q1
    (refine sw_seq ?_; refine sw_region ?_; (iterate 2 refine so_1 rfl ?_); refine so_nil ?_; refine sn_then ?_; refine sw_ret ?_; refine sn_block_ret ?_; refine sn_then_ret ?_)
    refine sn_ret rfl (.tmp rfl (.tmp rfl .nil)) (ent_keep 2 [] rfl rfl) ?_
    rw [if_pos q1']
    exact ⟨rfl, .inl ⟨rfl, rfl⟩⟩
  have q1' : fitB n e = true := by simpa using q1
  rw [if_neg (by rw [q1']; simp)]
  refine sw_fact (fun w H => (H.oat (k := 3) rfl).form) ?_
  rintro ⟨A', c', hv, _, _, q3⟩
  cases hv
  obtain ⟨gg, oo, rfl⟩ := q3 (by omega)
  (refine sw_seq ?_)
  refine sw_draw flo (pt g3 t_api_Event (evC e) :: stQ h ((q0 : Int) + 1) (some ⟨gg, oo, none⟩) cr n LR Al cl L.length L F) (by decide +kernel) (ent_keep 1 [] rfl rfl) ?_
  ((iterate 3 refine sd_1 rfl (.inl rfl) ?_); refine sd_l 1 rfl rfl rfl rfl ?_; (iterate 3 refine sd_1 rfl (.inl rfl) ?_); refine sd_l 1 rfl rfl rfl rfl ?_; refine sd_2 rfl rfl (by (unfold I64; omega)) ?_; refine sd_2 rfl rfl (by omega) ?_)
  refine sd_rd rfl (fun w H => ex_load rfl rfl rfl (by rw [mulz_eq, e8, Nat.mul_one]; exact row_cell (k := 2) rfl hc w H)) rfl rfl ?_
  (refine sd_1 rfl (.inl rfl) ?_; refine sd_l 0 rfl rfl rfl rfl ?_)
  refine sd_callE rfl rfl rfl rfl ((rHas_S (vF_vl (k := 4) rfl hmq))) (ent_keep 1 [] rfl rfl) ?_
  ((iterate 2 refine sd_1 rfl (.inl rfl) ?_))
  refine sd_nil ?_
  (refine sn_then ?_)
  refine sw_cond rfl (fun q2 => ?_) (fun q2 => ?_)
  · have q2' : hasL p.2 e.r e.n = false := by simpa using q2
    (refine sw_seq ?_; refine sw_region ?_; (iterate 2 refine so_1 rfl ?_); refine so_nil ?_; refine sn_then ?_; refine sw_ret ?_; refine sn_block_ret ?_; refine sn_then_ret ?_)
    refine sn_ret rfl (.tmp rfl (.tmp rfl .nil)) (ent_keep 2 [] rfl rfl) ?_
    rw [if_pos q2']
    exact ⟨rfl, .inl ⟨rfl, rfl⟩⟩
  have q2' : hasL p.2 e.r e.n = true := by simpa using q2
  rw [if_neg (by rw [q2']; simp)]
  generalize his : (findE L (dotE e)).isSome = is at *
  cases is with
  | true =>
    (refine sw_seq ?_)
    refine sw_draw flo (pt g3 t_api_Event (evC e) :: stQ h ((q0 : Int) + 1) (some ⟨gg, oo, none⟩) cr n LR Al cl L.length L F) (by decide +kernel) (ent_keep 1 [] rfl rfl) ?_
    ((iterate 3 refine sd_1 rfl (.inl rfl) ?_); refine sd_1 rfl (.inr rfl) ?_; (iterate 2 refine sd_1 rfl (.inl rfl) ?_); refine sd_1 rfl (.inr rfl) ?_; (iterate 2 refine sd_1 rfl (.inl rfl) ?_))
    refine sd_nil ?_
    (refine sn_then ?_; refine sw_cond_t rfl ?_; refine sw_seq ?_; refine sw_region ?_; (iterate 2 refine so_1 rfl ?_); refine so_nil ?_; refine sn_then ?_; refine sw_ret ?_; refine sn_block_ret ?_; refine sn_then_ret ?_)
    refine sn_ret rfl (.tmp rfl (.tmp rfl .nil)) (ent_keep 2 [] rfl rfl) ?_
    rw [Bool.true_or, if_pos rfl]
    exact ⟨rfl, .inl ⟨rfl, rfl⟩⟩
  | false =>
  rw [Bool.false_or]
  (refine sw_seq ?_)
  refine sw_draw flo (pt g3 t_api_Event (evC e) :: stQ h ((q0 : Int) + 1) (some ⟨gg, oo, none⟩) cr n LR Al cl L.length L F) (by decide +kernel) (ent_keep 1 [] rfl rfl) ?_
  ((iterate 3 refine sd_1 rfl (.inl rfl) ?_))
  refine sd_call rfl rfl rfl rfl ((rBound_S (F := pt g3 t_api_Event (evC e) :: F) hR hn).ent (ent_keep 7 [2, 3, 4, 5, 6, 1] rfl rfl)) ?_
  rintro bv _ rfl
  refine ⟨ent_keep 7 [6, 1, 2, 3, 4, 5] rfl rfl, ?_⟩
  (refine sd_1 rfl (.inl rfl) ?_; refine sd_l 0 rfl rfl rfl rfl ?_)
  refine sd_callE rfl rfl rfl rfl ((rHas_S (vlZ (k := 0) rfl))) (ent_keep 7 [6, 1, 2, 3, 4, 5] rfl rfl) ?_
  ((iterate 2 refine sd_1 rfl (.inl rfl) ?_))
  refine sd_nil ?_
  (refine sn_then ?_)
  refine sw_cond rfl (fun q3 => ?_) (fun q3 => ?_)
  · (refine sw_seq ?_; refine sw_region ?_; (iterate 2 refine so_1 rfl ?_); refine so_nil ?_; refine sn_then ?_; refine sw_ret ?_; refine sn_block_ret ?_; refine sn_then_ret ?_)
    refine sn_ret rfl (.tmp rfl (.tmp rfl .nil)) (ent_keep 7 [1, 2, 3, 4, 5] rfl rfl) ?_
    rw [if_pos q3]
    exact ⟨rfl, .inl ⟨rfl, rfl⟩⟩
  rw [if_neg (by rw [q3]; simp)]
  (refine sw_skip ?_; refine sn_block ?_; refine sn_then ?_; refine sw_seq ?_)
  refine sw_draw2 flo 11 (pt g3 t_api_Event (evC e) :: stQ h ((q0 : Int) + 1) (some ⟨gg, oo, none⟩) cr n LR Al cl L.length L F) [] rfl (by decide +kernel) (ent_keep 7 [6, 1, 2, 3, 4, 5] rfl rfl) ?_
  ((iterate 4 refine sd_1 rfl (.inl rfl) ?_); refine sd_l 1 rfl rfl rfl rfl ?_)
  refine sd_call rfl rfl rfl rfl (CopyEvents_S (l := L) (rEs_el (k := 4) (j := 5) rfl rfl) hL (by omega)) ?_
  rintro u0 _ ⟨D0, hD0, rfl⟩
  refine ⟨ent_keep 9 [8, 3, 4, 5, 6, 7] rfl rfl, ?_⟩
  have hDm : ∀ e ∈ D0, EvM e := evM_sub hL fun y hy => by rw [hD0] at hy; exact hy
  have hDl : D0.length = L.length := by have := congrArg List.length hD0; rwa [List.length_map, List.length_map] at this
  skip
  refine sd_ldA 0 rfl rfl rfl rfl rfl rfl (segO_all (by rw [hel]; rfl)) rfl rfl ?_
  refine sd_call rfl rfl rfl rfl (CopyEvent_S (up he (ent_keep 9 [] rfl rfl)) h32 hdn hrn) ?_
  rintro _ _ ⟨dv, rv, rfl, rfl⟩
  refine ⟨ent_keep 11 [10, 5, 6, 7, 8, 9] rfl rfl, ?_⟩
  refine sd_fact (fun w H => (H.oat (k := 0) rfl).form) ?_
  rintro ⟨A2, c2, rfl, _, _, _⟩
  refine sd_fact (fun w H => (H.oat (k := 1) rfl).form) ?_
  rintro ⟨A3, c3, rfl, _, _, _⟩
  have hxl := evC_len (e := e.own (.slice A2 e.deps.length c2) (.slice A3 e.refs.length c3)) h32
  have hx1 := evC_one (e := e.own (.slice A2 e.deps.length c2) (.slice A3 e.refs.length c3)) rfl rfl
  have hxn : nE (e.own (.slice A2 e.deps.length c2) (.slice A3 e.refs.length c3)) = nE e := rfl
  have hxP : evP (e.own (.slice A2 e.deps.length c2) (.slice A3 e.refs.length c3)) = [rZ (.slice A2 e.deps.length c2) e.deps, rD (.slice A3 e.refs.length c3) e.refs] := rfl
  generalize e.own (.slice A2 e.deps.length c2) (.slice A3 e.refs.length c3) = x at *
  refine sd_lit1 rfl rfl rfl rfl rfl rfl rfl rfl hxl (by decide) (ent_keep 11 [10, 5, 6, 7, 8, 9] rfl rfl) fun gl => ?_
  refine sd_append 3 rfl rfl rfl rfl rfl rfl rfl rfl rfl rfl (m := 1) (news := evC x) (fun w H => (H.blk (k := 0) rfl).sl (by rw [hxl]) (by decide)) hx1 (by omega) (fun _ => rfl) (fun _ => ent_keep 12 [11, 6, 7, 8, 9, 10] rfl rfl) fun v' => ?_
  have hms : ∀ e ∈ D0 ++ [x], EvM e := fun z hz => by
    rcases List.mem_append.1 hz with hz | hz
    · exact hDm z hz
    · rw [List.mem_singleton.1 hz]; exact hm.nE hxn
  have hns : (D0 ++ [x]).map nE = L.map nE ++ [nE e] := by rw [List.map_append, hD0, ← hxn]; rfl
  refine sd_call rfl rfl rfl rfl ((rSort_S (v := v') (l := D0 ++ [x]) (F := rEs v' (D0 ++ [x]) :: all (evF (D0 ++ [x])) :: pt g3 t_api_Event (evC e) :: stQ h ((q0 : Int) + 1) (some ⟨gg, oo, none⟩) cr n LR Al cl L.length L F) (rEs_el (k := 0) (j := 1) rfl rfl) hms (by simp; omega)).ent ?_) ?_
  · rw [rEs, evsC_snoc, List.length_append, List.length_singleton]
    refine Ent.trans (G := evP x ++ all (evF D0) :: row t_api_Event 39 v' (D0.length + 1) (evsC D0 ++ evC x) :: pt g3 t_api_Event (evC e) :: stQ h ((q0 : Int) + 1) (some ⟨gg, oo, none⟩) cr n LR Al cl L.length L F) (by rw [hxP]; exact ent_keep 12 [1, 2, 4, 3, 11, 6, 7, 8, 9, 10] rfl rfl) ?_
    exact (ent_in (A := evF (D0 ++ [x])) evF_snoc).trans (ent_keep 2 [1, 0] rfl rfl)
  rintro u _ ⟨D, hD, rfl⟩
  rw [hns] at hD
  refine ⟨ent_keep 4 [] rfl rfl, ?_⟩
  refine sd_fact (fun w H => (H.oat (k := 0) rfl).form) ?_
  rintro ⟨A7, c7, rfl, _, _, _⟩
  skip
  refine sd_nil (sn_draw2 rfl (ent_nil _) ?_)
  ((iterate 2 refine sd_1 rfl (.inl rfl) ?_))
  refine sd_st 5 rfl rfl rfl rfl rfl rfl rfl rfl rfl rfl rfl (ent_nil _) ?_
  refine sd_nil ?_
  (refine sn_then ?_; refine sw_seq ?_; refine sw_region ?_; (iterate 2 refine so_1 rfl ?_); refine so_nil ?_; refine sn_then ?_; refine sw_ret ?_)
  refine sn_ret rfl (.tmp rfl (.tmp rfl .nil)) (ent_keep 10 [5, 6, 7, 0, 1] rfl rfl) ?_
  exact ⟨rfl, .inr ⟨rfl, D, A7, c7, hD, rfl⟩⟩
end
end Go.Proofs.Ytajbpdmhpcpkgaa
/- Who has what, part seventeen: the document's matrix: Collect, Give. Conditions: not too many. -/
namespace Go.Proofs.Ytajbpdmhpcpkgaa
open Go Go.Eng Go.RowKit Go.WideMaps

theorem evs_two {L : List Ev} {i : Nat} {y : Ev} (fx : ((evsC L).drop (i * 39)).take 39 = evC y) : ((evsC L).drop (i * 39)).take 2 = [.int .i64 y.r, .int .i64 y.n] := by
  have := congrArg (List.take 2) fx
  rw [List.take_take] at this
  simpa [evC] using this
theorem giveL_full {has : List Int} {most : Int} {L : List Ev} {i : Nat} (h : most.toNat ≤ (giveL has most (L.take i)).length) : giveL has most (L.take i) = giveL has most L := by
  have e : L.filter (fun e => !hasL has e.r e.n) = (L.take i).filter (fun e => !hasL has e.r e.n) ++ (L.drop i).filter (fun e => !hasL has e.r e.n) := by rw [← List.filter_append, List.take_append_drop]
  unfold giveL at h ⊢
  rw [List.length_take] at h
  rw [e, List.take_append_of_le_length (by omega)]
theorem giveL_snoc {has : List Int} {most : Int} {D : List Ev} {z : Ev} (h : (giveL has most D).length < most.toNat) : giveL has most (D ++ [z]) = giveL has most D ++ (if hasL has z.r z.n = true then [] else [z]) := by
  unfold giveL at h ⊢
  rw [List.length_take] at h
  have h2 : (D.filter fun e => !hasL has e.r e.n).length ≤ most.toNat := by omega
  rw [List.filter_append, List.filter_cons, List.filter_nil, List.take_of_length_le h2]
  cases hasL has z.r z.n
  · exact List.take_of_length_le (by rw [List.length_append]; simp; omega)
  · simp only [Bool.not_true]; simp; exact List.take_of_length_le h2
section
variable {b : World} {F : List SP} {v : Value} {xs ys : List Int} {h n k cr cl : Nat} {own : Int} {Ar Al : Option Addr} {LR : List (Value × List Int)} {L : List Ev} {e : Ev}
set_option maxRecDepth 20000 in
set_option maxHeartbeats 4000000 in
theorem rCollect_S (hR : RowsOk (LR.map Prod.snd)) (hn : LR.length = n) (hL : ∀ e ∈ L, EvM e) (hk : L.length = k) (h8 : k ≤ 100000) :
    SC Try.prog n_p_entrepotref24_Matrix_Collect [.pointer (some ⟨h, 0, none⟩)] b (stQ h own Ar cr n LR Al cl k L F) (fun u F' => ∃ Al' cl', F' = rEs u (L.filter (stB (LR.map Prod.snd))) :: all (evF (L.filter (stB (LR.map Prod.snd)))) :: stQ h own Ar cr n LR Al' cl' (L.filter fun e => !stB (LR.map Prod.snd) e).length (L.filter fun e => !stB (LR.map Prod.snd) e) F) := by
  subst hk
  have hsB : ∀ y : Ev, stB (LR.map Prod.snd) y = hasL (boundL (LR.map Prod.snd)) y.r y.n := fun _ => rfl
  refine enterS F_p_entrepotref24_Matrix_Collect rfl rfl rfl ?_
  refine sw_fact (p := ∀ e ∈ L, EvK e) (fun w H e he => by
    have := er_form (evF_er (k := 4) rfl he w H)
    exact ⟨(hL e he).l32, this.1, this.2⟩) fun hLk => ?_
  refine sw_fact (fun w H => (H.oat (k := 3) rfl).form) ?_
  rintro ⟨A', c', hv, _, _, q3⟩
  cases hv
  (refine sw_seq ?_; refine sw_region ?_; refine so_1 rfl ?_; refine so_nil ?_; refine sn_then ?_; refine sw_seq ?_; refine sw_region ?_; (iterate 2 refine so_1 rfl ?_); refine so_nil ?_; refine sn_then ?_; refine sw_seq ?_; refine sw_region ?_; refine so_1 rfl ?_)
  refine so_call rfl rfl rfl (rBound_S hR hn) ?_
  rintro bv _ rfl
  generalize boundL (LR.map Prod.snd) = bs at *
  (refine so_1 rfl ?_; refine so_nil ?_; refine sn_then ?_; (iterate 2 refine sw_seq ?_); refine sw_region ?_; refine so_1 rfl ?_; refine so_nil ?_; refine sn_then ?_; refine sw_block ?_)
  refine sw_loop (S := Nat × List Ev × (Nat × Option Addr × Nat) × List Ev × (Nat × Option Addr × Nat)) (fun s => [(0, .pointer (some ⟨h, 0, none⟩)), (3, .slice s.2.2.1.2.1 s.2.2.1.1 s.2.2.1.2.2), (4, .slice s.2.2.2.2.2.1 s.2.2.2.2.1 s.2.2.2.2.2.2), (5, bv), (6, .int .i64 (s.1 : Int))])
    (fun s => rEn s.2.2.1.2.1 s.2.2.1.2.2 s.2.2.1.1 s.2.1 :: rEn s.2.2.2.2.2.1 s.2.2.2.2.2.2 s.2.2.2.2.1 s.2.2.2.1 :: rZ bv bs :: stQ h own Ar cr n LR Al cl L.length L F) (fun s => s.1 ≤ L.length ∧ s.2.1 = (L.take s.1).filter (fun e => !stB (LR.map Prod.snd) e) ∧ s.2.2.2.1 = (L.take s.1).filter (stB (LR.map Prod.snd)) ∧ s.2.1.length = s.2.2.1.1 ∧ s.2.2.2.1.length = s.2.2.2.2.1) (fun s => L.length - s.1) (0, [], (0, none, 0), [], (0, none, 0)) ⟨rfl, rfl, rfl, rfl, rfl, trivial⟩ ((ent_row_nil t_api_Event 39 rfl).trans (ent_row_nil t_api_Event 39 rfl)) ⟨Nat.zero_le _, rfl, rfl, rfl, rfl⟩ ?_
  rintro ⟨i, S1, ⟨o1, A1, c1⟩, S2, ⟨o2, A2, c2⟩⟩ ⟨hi, hS1, hS2, hl1, hl2⟩
  dsimp only at hi hS1 hS2 hl1 hl2 ⊢
  have hb1 : S1.length ≤ L.length := by rw [hS1]; exact Nat.le_trans (List.length_filter_le _ _) (by rw [List.length_take]; omega)
  have hb2 : S2.length ≤ L.length := by rw [hS2]; exact Nat.le_trans (List.length_filter_le _ _) (by rw [List.length_take]; omega)
  subst hl1
  subst hl2
  ((iterate 2 refine sw_seq ?_); refine sw_region ?_; (iterate 4 refine so_1 rfl ?_); refine so_l 3 rfl rfl rfl ?_; (iterate 2 refine so_1 rfl ?_); refine so_nil ?_; refine sn_then ?_)
  refine sw_if rfl (fun h1 => ?_) (fun h1 => ?_)
  · have h1' : i < L.length := by omega
    obtain ⟨gg, oo, rfl⟩ := q3 (by omega)
    have hx := List.getElem?_eq_getElem h1'
    have fx := evs_seg hLk hx
    have kx := hLk _ (List.getElem_mem h1')
    have hsn : L.take (i + 1) = L.take i ++ [L[i]] := List.take_succ_eq_append_getElem h1'
    generalize L[i] = y at *
    have f2 := evs_two fx
    have yl := evC_len kx.l32
    have y1 := evC_one kx.d1 kx.r1
    (refine sw_skip ?_; refine sn_then ?_; refine sw_seq ?_; refine sw_block ?_; refine sw_seq ?_; refine sw_region ?_; (iterate 4 refine so_1 rfl ?_); refine so_l 3 rfl rfl rfl ?_; refine so_1 rfl ?_; refine so_2 rfl (by omega) ?_; refine so_1 rfl ?_)
    refine so_ldrow 6 (i * 39) rfl rfl rfl rfl rfl rfl rfl (by rw [mulz_eq, Int.toNat_natCast]; rfl) (by omega) f2 rfl ?_
    refine so_callE rfl rfl rfl (rHas_S (vlZ (k := 2) rfl)) ?_
    (refine so_nil ?_; refine sn_then ?_)
    refine sw_cond rfl (fun q => ?_) (fun q => ?_)
    · have q' : stB (LR.map Prod.snd) y = true := by rw [hsB]; exact q
      (refine sw_region ?_; (iterate 4 refine so_1 rfl ?_); refine so_l 3 rfl rfl rfl ?_; refine so_1 rfl ?_; refine so_2 rfl (by omega) ?_)
      refine so_ldrow 6 (i * 39) rfl rfl rfl rfl rfl rfl rfl (by rw [mulz_eq, Int.toNat_natCast]) (by omega) fx (by rw [yl]; rfl) ?_
      refine so_lit1 rfl rfl rfl rfl rfl rfl rfl yl (by decide) fun gl => ?_
      refine so_append 2 rfl rfl rfl rfl rfl rfl rfl rfl rfl (m := 1) (news := evC y) (fun w H => (H.blk (k := 0) rfl).sl (by rw [yl]) (by decide)) y1 (by omega) (fun _ => rfl) fun v8 => ?_
      refine so_fact (fun w H => (H.oat (k := 2) rfl).form) ?_
      rintro ⟨A9, c9, rfl, _, _, _⟩
      (refine so_1 rfl ?_; refine so_nil ?_; refine sn_block ?_; refine sn_then ?_; refine sw_region ?_; refine so_1 rfl ?_; refine so_2 rfl (by (unfold I64; omega)) ?_; refine so_1 rfl ?_; refine so_nil ?_)
      rw [show (i : Int) + 1 = ((i + 1 : Nat) : Int) by omega]
      refine sn_round (i + 1, S1, (S1.length, A1, c1), S2 ++ [y], (S2.length + 1, A9, c9)) ⟨rfl, rfl, rfl, rfl, rfl, trivial⟩ ?_ ⟨h1', ?_, ?_, rfl, by simp⟩ (by dsimp only; omega)
      · dsimp only
        rw [show rEn A9 c9 (S2.length + 1) (S2 ++ [y]) = row t_api_Event 39 (.slice A9 (S2.length + 1) c9) (S2.length + 1) (evsC S2 ++ evC y) by rw [rEn, evsC_snoc]]
        exact ent_keep 3 [1, 2] rfl rfl
      · dsimp only
        rw [hsn, List.filter_append, ← hS1]; simp [q']
      · dsimp only
        rw [hsn, List.filter_append, ← hS2]; simp [q']
    · have q' : stB (LR.map Prod.snd) y = false := by rw [hsB]; exact q
      (refine sw_region ?_; (iterate 4 refine so_1 rfl ?_); refine so_l 3 rfl rfl rfl ?_; refine so_1 rfl ?_; refine so_2 rfl (by omega) ?_)
      refine so_ldrow 6 (i * 39) rfl rfl rfl rfl rfl rfl rfl (by rw [mulz_eq, Int.toNat_natCast]) (by omega) fx (by rw [yl]; rfl) ?_
      refine so_lit1 rfl rfl rfl rfl rfl rfl rfl yl (by decide) fun gl => ?_
      refine so_append 1 rfl rfl rfl rfl rfl rfl rfl rfl rfl (m := 1) (news := evC y) (fun w H => (H.blk (k := 0) rfl).sl (by rw [yl]) (by decide)) y1 (by omega) (fun _ => rfl) fun v8 => ?_
      refine so_fact (fun w H => (H.oat (k := 1) rfl).form) ?_
      rintro ⟨A9, c9, rfl, _, _, _⟩
      (refine so_1 rfl ?_; refine so_nil ?_; refine sn_block ?_; refine sn_then ?_; refine sw_region ?_; refine so_1 rfl ?_; refine so_2 rfl (by (unfold I64; omega)) ?_; refine so_1 rfl ?_; refine so_nil ?_)
      rw [show (i : Int) + 1 = ((i + 1 : Nat) : Int) by omega]
      refine sn_round (i + 1, S1 ++ [y], (S1.length + 1, A9, c9), S2, (S2.length, A2, c2)) ⟨rfl, rfl, rfl, rfl, rfl, trivial⟩ ?_ ⟨h1', ?_, ?_, by simp, rfl⟩ (by dsimp only; omega)
      · dsimp only
        rw [show rEn A9 c9 (S1.length + 1) (S1 ++ [y]) = row t_api_Event 39 (.slice A9 (S1.length + 1) c9) (S1.length + 1) (evsC S1 ++ evC y) by rw [rEn, evsC_snoc]]
        exact ent_keep 3 [1, 2] rfl rfl
      · dsimp only
        rw [hsn, List.filter_append, ← hS1]; simp [q']
      · dsimp only
        rw [hsn, List.filter_append, ← hS2]; simp [q']
  · obtain rfl : i = L.length := by omega
    rw [List.take_length] at hS1 hS2
    subst hS1
    subst hS2
    (refine sw_exit ?_; refine sn_then_exit ?_; refine sn_loop_exit ?_; refine sn_block_exit ?_; refine sn_then ?_; refine sw_seq ?_; refine sw_region ?_; (iterate 4 refine so_1 rfl ?_); refine so_s1 3 rfl rfl rfl rfl ?_; refine so_nil ?_; refine sn_then ?_; refine sw_seq ?_; refine sw_region ?_; (iterate 2 refine so_1 rfl ?_); refine so_nil ?_; refine sn_then ?_; refine sw_ret ?_)
    refine sn_ent (G := all (evF L) :: rEs (.slice A2 (L.filter (stB (LR.map Prod.snd))).length c2) (L.filter (stB (LR.map Prod.snd))) :: pt h t_entrepotref24_Matrix [.int .i64 own, .slice Ar n cr, .slice A1 (L.filter fun e => !stB (LR.map Prod.snd) e).length c1] :: rRn Ar cr n LR :: all (vF LR) :: rEn A1 c1 (L.filter fun e => !stB (LR.map Prod.snd) e).length (L.filter fun e => !stB (LR.map Prod.snd) e) :: F) (ent_keep 8 [7, 1, 3, 4, 5, 0] rfl rfl) ?_
    refine sn_ent (ent_split (p := stB (LR.map Prod.snd))) ?_
    refine sn_ret rfl (.tmp rfl .nil) (ent_keep 7 [2, 0, 3, 4, 5, 6, 1] rfl rfl) ?_
    exact ⟨A1, c1, rfl⟩
end
end Go.Proofs.Ytajbpdmhpcpkgaa
/- Who has what, part eighteen: the document's matrix: Give. Conditions: not too many. -/
namespace Go.Proofs.Ytajbpdmhpcpkgaa
open Go Go.Eng Go.RowKit Go.WideMaps

section
variable {b : World} {F : List SP} {v : Value} {xs ys : List Int} {h n k cr cl : Nat} {own : Int} {Ar Al : Option Addr} {LR : List (Value × List Int)} {L : List Ev} {e : Ev}
set_option maxRecDepth 20000 in
set_option maxHeartbeats 4000000 in
theorem rGive_S {r most : Int} (hR : RowsOk (LR.map Prod.snd)) (hn : LR.length = n) (hL : ∀ e ∈ L, EvM e) (hk : L.length = k) (h8 : k ≤ 100000) (hv : ∀ w, Sat b F w → VL (Value.int .i64) w v xs) :
    SC Try.prog n_p_entrepotref24_Matrix_Give [.pointer (some ⟨h, 0, none⟩), .int .i64 r, v, .int .i64 most] b (stQ h own Ar cr n LR Al cl k L F) (fun u F' => ∃ gv D, u = .tuple ⟨[gv, .int .i64 (giveT (LR.map Prod.snd) (L.map nE) r xs most).2]⟩ ∧ D.map nE = (giveT (LR.map Prod.snd) (L.map nE) r xs most).1 ∧ F' = rEs gv D :: all (evF D) :: stQ h own Ar cr n LR Al cl k L F) := by
  subst hk
  subst hn
  have hRl : (LR.map Prod.snd).length = LR.length := List.length_map _
  have h16 := hR.n16
  refine enterS F_p_entrepotref24_Matrix_Give rfl rfl rfl ?_
  (refine sw_seq ?_; refine sw_region ?_; (iterate 2 refine so_1 rfl ?_); refine so_nil ?_; refine sn_then ?_; refine sw_seq ?_; refine sw_block ?_; refine sw_seq ?_; refine sw_region ?_; (iterate 3 refine so_1 rfl ?_))
  have hbad : regB LR.length r = false → ∃ gv D, tupl [Value.slice none 0 0, Value.int .i64 3] = .tuple ⟨[gv, .int .i64 (giveT (LR.map Prod.snd) (L.map nE) r xs most).2]⟩ ∧ D.map nE = (giveT (LR.map Prod.snd) (L.map nE) r xs most).1 ∧ rEs (.slice none 0 0) [] :: all (evF []) :: stQ h own Ar cr LR.length LR Al cl L.length L F = rEs gv D :: all (evF D) :: stQ h own Ar cr LR.length LR Al cl L.length L F := fun q => by
    have e : giveT (LR.map Prod.snd) (L.map nE) r xs most = ([], 3) := if_pos (by rw [hRl]; exact q)
    rw [e]; exact ⟨_, [], rfl, rfl, rfl⟩
  by_cases h1 : r < 1
  · refine so_know 15 (.bool true) rfl (congrArg Value.bool (decide_eq_true h1)) ?_
    ((iterate 9 refine so_1 rfl ?_); refine so_nil ?_; refine sn_then ?_; refine sw_cond_t rfl ?_; refine sw_seq ?_; refine sw_region ?_; (iterate 2 refine so_1 rfl ?_); refine so_nil ?_; refine sn_then ?_; refine sw_ret ?_; refine sn_block_ret ?_; refine sn_then_ret ?_)
    refine sn_ret rfl (.tmp rfl (.tmp rfl .nil)) (ent_noE) ?_
    exact hbad (by unfold regB; exact decide_eq_false (by omega))
  refine so_know 15 (.bool false) rfl (congrArg Value.bool (decide_eq_false h1)) ?_
  ((iterate 4 refine so_1 rfl ?_); refine so_l 0 rfl rfl rfl ?_; (iterate 4 refine so_1 rfl ?_); refine so_nil ?_; refine sn_then ?_)
  refine sw_if rfl (fun h2 => ?_) (fun h2 => ?_)
  · (refine sw_seq ?_; refine sw_region ?_; (iterate 2 refine so_1 rfl ?_); refine so_nil ?_; refine sn_then ?_; refine sw_ret ?_; refine sn_block_ret ?_; refine sn_then_ret ?_)
    refine sn_ret rfl (.tmp rfl (.tmp rfl .nil)) (ent_noE) ?_
    exact hbad (by unfold regB; exact decide_eq_false (by omega))
  have q' : regB LR.length r = true := regB_iff.2 ⟨by omega, by omega⟩
  (refine sw_seq ?_; refine sw_region ?_; (iterate 4 refine so_1 rfl ?_); refine so_l 0 rfl rfl rfl ?_; refine so_1 rfl ?_)
  refine so_callE rfl rfl rfl (rnum_S (up hv (ent_keep 5 [] rfl rfl))) ?_
  ((iterate 2 refine so_1 rfl ?_); refine so_nil ?_; refine sn_then ?_)
  refine sw_cond rfl (fun q2 => ?_) (fun q2 => ?_)
  · have q2' : numB LR.length xs = false := by simpa using q2
    (refine sw_seq ?_; refine sw_region ?_; (iterate 2 refine so_1 rfl ?_); refine so_nil ?_; refine sn_then ?_; refine sw_ret ?_; refine sn_block_ret ?_; refine sn_then_ret ?_)
    refine sn_ret rfl (.tmp rfl (.tmp rfl .nil)) (ent_noE) ?_
    have e : giveT (LR.map Prod.snd) (L.map nE) r xs most = ([], 2) := by unfold giveT; rw [hRl, if_neg (by rw [q']; simp), if_pos q2']
    rw [e]; exact ⟨_, [], rfl, rfl, rfl⟩
  have q2' : numB LR.length xs = true := by simpa using q2
  obtain ⟨v1, v2⟩ := numB_iff.1 q2'
  obtain ⟨q0, rfl⟩ : ∃ q0 : Nat, r = (q0 : Int) + 1 := ⟨r.toNat - 1, by omega⟩
  have hq0 : q0 < LR.length := by omega
  have e8 : ((q0 : Int) + 1 - 1).toNat = q0 := by omega
  have hq : (LR.map Prod.snd)[q0]? = some LR[q0].2 := by rw [List.getElem?_map, List.getElem?_eq_getElem hq0]; rfl
  have hc : (LR.map Prod.fst)[q0]? = some LR[q0].1 := by rw [List.getElem?_map, List.getElem?_eq_getElem hq0]; rfl
  have hmq := List.getElem_mem hq0
  have e : giveT (LR.map Prod.snd) (L.map nE) ((q0 : Int) + 1) xs most = (giveL (joinL xs LR[q0].2) most (L.map nE), 0) := by
    unfold giveT; rw [hRl, if_neg (by rw [q']; simp), if_neg (by rw [q2']; simp), show ((q0 : Int) + 1).toNat - 1 = q0 by omega, List.getD_eq_getElem?_getD, hq]; rfl
  rw [e]
  clear e hbad
  generalize LR[q0] = p at *
  refine sw_fact (p := ∀ e ∈ L, EvK e) (fun w H e he => by
    have := er_form (evF_er (k := 4) rfl he w H)
    exact ⟨(hL e he).l32, this.1, this.2⟩) fun hLk => ?_
  refine sw_fact (fun w H => (H.oat (k := 3) rfl).form) ?_
  rintro ⟨A', c', hv', _, _, q3⟩
  cases hv'
  refine sw_fact (fun w H => (H.oat (k := 1) rfl).form) ?_
  rintro ⟨A', c', hv', _, _, q4⟩
  cases hv'
  obtain ⟨g9, o9, rfl⟩ := q4 (by omega)
  (refine sw_skip ?_; refine sn_block ?_; refine sn_then ?_; refine sw_seq ?_; refine sw_region ?_; refine so_1 rfl ?_; refine so_nil ?_; refine sn_then ?_; (iterate 2 refine sw_seq ?_); refine sw_region ?_; refine so_1 rfl ?_; refine so_nil ?_; refine sn_then ?_; refine sw_block ?_)
  refine sw_loop (S := Nat × List Ev × (Nat × Option Addr × Nat)) (fun s => [(0, .pointer (some ⟨h, 0, none⟩)), (1, .int .i64 ((q0 : Int) + 1)), (2, v), (3, .int .i64 most), (10, .slice s.2.2.2.1 s.2.2.1 s.2.2.2.2), (11, .int .i64 (s.1 : Int))])
    (fun s => rEn s.2.2.2.1 s.2.2.2.2 s.2.2.1 s.2.1 :: all (evF s.2.1) :: stQ h own (some ⟨g9, o9, none⟩) cr LR.length LR Al cl L.length L F) (fun s => s.1 ≤ L.length ∧ s.2.1.map nE = giveL (joinL xs p.2) most ((L.take s.1).map nE) ∧ s.2.1.length = s.2.2.1) (fun s => L.length - s.1) (0, [], (0, none, 0)) ⟨rfl, rfl, rfl, rfl, rfl, rfl, trivial⟩ (ent_noE) ⟨Nat.zero_le _, by simp [giveL], rfl⟩ ?_
  rintro ⟨i, D, ⟨o, A, c⟩⟩ ⟨hi, hD, hl⟩
  dsimp only at hi hD hl ⊢
  subst hl
  have hDl : D.length = (giveL (joinL xs p.2) most ((L.take i).map nE)).length := by rw [← hD, List.length_map]
  have hb : D.length ≤ L.length := by
    rw [hDl]
    refine Nat.le_trans (List.length_take_le' _ _) (Nat.le_trans (List.length_filter_le _ _) ?_)
    rw [List.length_map, List.length_take]; omega
  ((iterate 2 refine sw_seq ?_); refine sw_region ?_; (iterate 4 refine so_1 rfl ?_); refine so_l 2 rfl rfl rfl ?_; (iterate 3 refine so_1 rfl ?_))
  by_cases h3 : (i : Int) < L.length
  · have h3' : i < L.length := by omega
    obtain ⟨gg, oo, rfl⟩ := q3 (by omega)
    refine so_know 40 (.bool true) rfl (congrArg Value.bool (decide_eq_true h3)) ?_
    ((iterate 5 refine so_1 rfl ?_); refine so_nil ?_; refine sn_then ?_)
    refine sw_if rfl (fun h4 => ?_) (fun h4 => ?_)
    · have hx := List.getElem?_eq_getElem h3'
      have fx := evs_seg hLk hx
      have kx := hLk _ (List.getElem_mem h3')
      have mx := hL _ (List.getElem_mem h3')
      have hm := List.getElem_mem h3'
      have hsn : (L.take (i + 1)).map nE = (L.take i).map nE ++ [nE L[i]] := by rw [List.take_succ_eq_append_getElem h3', List.map_append]; rfl
      generalize L[i] = y at *
      have f2 := evs_two fx
      have yl := evC_len kx.l32
      have y1 := evC_one kx.d1 kx.r1
      have hstep := giveL_snoc (has := joinL xs p.2) (most := most) (D := (L.take i).map nE) (z := nE y) (by rw [← hDl]; omega)
      rw [← hsn, ← hD, hasL_join] at hstep
      have hstep' : giveL (joinL xs p.2) most ((L.take (i + 1)).map nE) = D.map nE ++ (if (hasL xs y.r y.n || hasL p.2 y.r y.n) = true then [] else [nE y]) := hstep
      clear hstep
      (refine sw_skip ?_; refine sn_then ?_; refine sw_seq ?_; refine sw_block ?_; refine sw_seq ?_)
      refine sw_draw flo (stQ h own (some ⟨g9, o9, none⟩) cr LR.length LR (some ⟨gg, oo, none⟩) cl L.length L F) (by decide +kernel) (ent_keep 2 [] rfl rfl) ?_
      ((iterate 4 refine sd_1 rfl (.inl rfl) ?_); refine sd_l 0 rfl rfl rfl rfl ?_; refine sd_1 rfl (.inl rfl) ?_; refine sd_2 rfl rfl (by omega) ?_; refine sd_1 rfl (.inl rfl) ?_)
      refine sd_ldrow 3 (i * 39) rfl rfl rfl rfl rfl rfl rfl rfl (by rw [mulz_eq, Int.toNat_natCast]; rfl) (by omega) f2 rfl ?_
      refine sd_callE rfl rfl rfl rfl ((rHas_S (up hv (ent_keep 7 [] rfl rfl)))) (ent_keep 2 [] rfl rfl) ?_
      ((iterate 2 refine sd_1 rfl (.inl rfl) ?_))
      cases hA : hasL xs y.r y.n with
      | true =>
        rw [hA, Bool.true_or, if_pos rfl, List.append_nil] at hstep'
        ((iterate 16 refine sd_1 rfl (.inl rfl) ?_); refine sd_1 rfl (.inr rfl) ?_; (iterate 2 refine sd_1 rfl (.inl rfl) ?_))
        refine sd_nil ?_
        (refine sn_then ?_; refine sw_cond_f rfl ?_; refine sw_skip ?_; refine sn_block ?_; refine sn_then ?_; refine sw_region ?_; refine so_1 rfl ?_; refine so_2 rfl (by (unfold I64; omega)) ?_; refine so_1 rfl ?_; refine so_nil ?_)
        rw [show (i : Int) + 1 = ((i + 1 : Nat) : Int) by omega]
        exact sn_round (i + 1, D, (D.length, A, c)) ⟨rfl, rfl, rfl, rfl, rfl, rfl, trivial⟩ (Ent.refl _) ⟨h3', hstep'.symm, rfl⟩ (by dsimp only; omega)
      | false =>
      rw [hA, Bool.false_or] at hstep'
      ((iterate 3 refine sd_1 rfl (.inl rfl) ?_); refine sd_l 0 rfl rfl rfl rfl ?_; refine sd_1 rfl (.inl rfl) ?_; refine sd_2 rfl rfl (by (unfold I64; omega)) ?_; refine sd_2 rfl rfl (by omega) ?_)
      refine sd_rd rfl (fun w H => ex_load rfl rfl rfl (by rw [mulz_eq, e8, Nat.mul_one]; exact row_cell (k := 1) rfl hc w H)) rfl rfl ?_
      ((iterate 3 refine sd_1 rfl (.inl rfl) ?_); refine sd_l 0 rfl rfl rfl rfl ?_; refine sd_1 rfl (.inl rfl) ?_; refine sd_2 rfl rfl (by omega) ?_; refine sd_1 rfl (.inl rfl) ?_)
      refine sd_ldrow 3 (i * 39) rfl rfl rfl rfl rfl rfl rfl rfl (by rw [mulz_eq, Int.toNat_natCast]; rfl) (by omega) f2 rfl ?_
      refine sd_callE rfl rfl rfl rfl ((rHas_S (vF_vl (k := 4) rfl hmq))) (ent_keep 2 [] rfl rfl) ?_
      ((iterate 2 refine sd_1 rfl (.inl rfl) ?_))
      refine sd_nil ?_
      (refine sn_then ?_)
      cases hB : hasL p.2 y.r y.n with
      | true =>
        rw [hB, if_pos rfl, List.append_nil] at hstep'
        (refine sw_cond_f rfl ?_; refine sw_skip ?_; refine sn_block ?_; refine sn_then ?_; refine sw_region ?_; refine so_1 rfl ?_; refine so_2 rfl (by (unfold I64; omega)) ?_; refine so_1 rfl ?_; refine so_nil ?_)
        rw [show (i : Int) + 1 = ((i + 1 : Nat) : Int) by omega]
        exact sn_round (i + 1, D, (D.length, A, c)) ⟨rfl, rfl, rfl, rfl, rfl, rfl, trivial⟩ (Ent.refl _) ⟨h3', hstep'.symm, rfl⟩ (by dsimp only; omega)
      | false =>
      rw [hB, if_neg (by simp)] at hstep'
      (refine sw_cond_t rfl ?_; refine sw_region ?_; (iterate 4 refine so_1 rfl ?_); refine so_l 2 rfl rfl rfl ?_; refine so_1 rfl ?_; refine so_2 rfl (by omega) ?_)
      refine so_ldrow 5 (i * 39) rfl rfl rfl rfl rfl rfl rfl (by rw [mulz_eq, Int.toNat_natCast]) (by omega) fx (by rw [yl]; rfl) ?_
      refine so_call rfl rfl rfl (CopyEvent_S (evF_er (k := 6) rfl hm) kx.l32 mx.dn mx.rn) ?_
      rintro _ _ ⟨dv, rv, rfl, rfl⟩
      refine so_fact (fun w H => (H.oat (k := 0) rfl).form) ?_
      rintro ⟨A2, c2, rfl, _, _, _⟩
      refine so_fact (fun w H => (H.oat (k := 1) rfl).form) ?_
      rintro ⟨A3, c3, rfl, _, _, _⟩
      have hxl := evC_len (e := y.own (.slice A2 y.deps.length c2) (.slice A3 y.refs.length c3)) kx.l32
      have hx1 := evC_one (e := y.own (.slice A2 y.deps.length c2) (.slice A3 y.refs.length c3)) rfl rfl
      have hxn : nE (y.own (.slice A2 y.deps.length c2) (.slice A3 y.refs.length c3)) = nE y := rfl
      have hxP : evP (y.own (.slice A2 y.deps.length c2) (.slice A3 y.refs.length c3)) = [rZ (.slice A2 y.deps.length c2) y.deps, rD (.slice A3 y.refs.length c3) y.refs] := rfl
      generalize y.own (.slice A2 y.deps.length c2) (.slice A3 y.refs.length c3) = x at *
      refine so_lit1 rfl rfl rfl rfl rfl rfl rfl hxl (by decide) fun gl => ?_
      refine so_append 3 rfl rfl rfl rfl rfl rfl rfl rfl rfl (m := 1) (news := evC x) (fun w H => (H.blk (k := 0) rfl).sl (by rw [hxl]) (by decide)) hx1 (by omega) (fun _ => rfl) fun v' => ?_
      refine so_fact (fun w H => (H.oat (k := 3) rfl).form) ?_
      rintro ⟨A', c', rfl, _, _, _⟩
      (refine so_1 rfl ?_; refine so_nil ?_; refine sn_block ?_; refine sn_then ?_; refine sw_region ?_; refine so_1 rfl ?_; refine so_2 rfl (by (unfold I64; omega)) ?_; refine so_1 rfl ?_; refine so_nil ?_)
      rw [show (i : Int) + 1 = ((i + 1 : Nat) : Int) by omega]
      refine sn_ent (G := evP x ++ all (evF D) :: rEn A' c' (D.length + 1) (D ++ [x]) :: stQ h own (some ⟨g9, o9, none⟩) cr LR.length LR (some ⟨gg, oo, none⟩) cl L.length L F) (by
        rw [hxP, rEn, evsC_snoc]; exact ent_keep 5 [1, 2, 4, 3] rfl rfl) ?_
      refine sn_ent (ent_in (A := evF (D ++ [x])) evF_snoc) ?_
      refine sn_round (i + 1, D ++ [x], (D.length + 1, A', c')) ⟨rfl, rfl, rfl, rfl, rfl, rfl, trivial⟩ (ent_keep 2 [1, 0] rfl rfl) ⟨h3', ?_, by simp⟩ (by dsimp only; omega)
      dsimp only
      rw [List.map_append, hstep', ← hxn]; rfl
    · (refine sw_exit ?_; refine sn_then_exit ?_; refine sn_loop_exit ?_; refine sn_block_exit ?_; refine sn_then ?_; refine sw_seq ?_; refine sw_region ?_; (iterate 3 refine so_1 rfl ?_); refine so_nil ?_; refine sn_then ?_; refine sw_ret ?_)
      refine sn_ret rfl (.tmp rfl (.tmp rfl .nil)) (Ent.refl _) ?_
      refine ⟨_, D, rfl, ?_, rfl⟩
      have e : (L.take i).map nE = (L.map nE).take i := List.map_take
      rw [e] at hD hDl
      rw [hD]
      exact giveL_full (by rw [← hDl]; omega)
  · obtain rfl : i = L.length := by omega
    refine so_know 40 (.bool false) rfl (congrArg Value.bool (decide_eq_false h3)) ?_
    ((iterate 5 refine so_1 rfl ?_); refine so_nil ?_; refine sn_then ?_; refine sw_cond_f rfl ?_; refine sw_exit ?_; refine sn_then_exit ?_; refine sn_loop_exit ?_; refine sn_block_exit ?_; refine sn_then ?_; refine sw_seq ?_; refine sw_region ?_; (iterate 3 refine so_1 rfl ?_); refine so_nil ?_; refine sn_then ?_; refine sw_ret ?_)
    refine sn_ret rfl (.tmp rfl (.tmp rfl .nil)) (Ent.refl _) ?_
    refine ⟨_, D, rfl, ?_, rfl⟩
    rw [hD, List.take_length]
end
end Go.Proofs.Ytajbpdmhpcpkgaa
/- Who has what, part nineteen: the document's matrix: Load. Conditions: not too many. -/
namespace Go.Proofs.Ytajbpdmhpcpkgaa
open Go Go.Eng Go.RowKit Go.WideMaps

theorem partR_set {R : List (List Int)} {i : Nat} (hi : i < R.length) : (partR R i).set i R[i] = partR R (i + 1) := by
  obtain ⟨m, hm⟩ : ∃ m, R.length - i = m + 1 := ⟨R.length - i - 1, by omega⟩
  have hl : (R.take i).length = i := by rw [List.length_take]; omega
  rw [partR, partR, hm, List.replicate_succ, List.set_append_right i R[i] (by omega), hl, Nat.sub_self, List.set_cons_zero, List.take_succ_eq_append_getElem hi, show R.length - (i + 1) = m by omega, List.append_assoc]; rfl
section
variable {b : World} {F : List SP}
set_option maxRecDepth 20000 in
set_option maxHeartbeats 8000000 in
theorem rLoad_S {rv lv : Value} {own : Int} {L : List (Value × List Int)} {l : List Ev} (hr : ∀ w, Sat b F w → RL w rv L) (hl : ∀ w, Sat b F w → EL w lv l) (hm : ∀ e ∈ l, EvM e) (hn : l.length ≤ 100000) :
    SC Try.prog n_entrepotref24_Load [.int .i64 own, rv, lv] b F (fun u F' => (loadErr own (L.map Prod.snd) l ≠ 0 ∧ u = .tuple ⟨[.pointer none, .int .i64 (loadErr own (L.map Prod.snd) l)]⟩ ∧ F' = F) ∨
      (loadErr own (L.map Prod.snd) l = 0 ∧ ∃ h Ar cr LR Al cl D, u = .tuple ⟨[.pointer (some ⟨h, 0, none⟩), .int .i64 0]⟩ ∧ LR.map Prod.snd = L.map Prod.snd ∧ IsSort (l.map nE) (D.map nE) ∧ F' = stQ h own Ar cr L.length LR Al cl D.length D F)) := by
  have h32 : ∀ e ∈ l, e.id.length = 32 := fun e he => (hm e he).l32
  have hRl : (L.map Prod.snd).length = L.length := List.length_map _
  refine enterS F_entrepotref24_Load rfl rfl rfl ?_
  refine sw_fact (fun w H => sl_form (hr w H).sl) ?_
  rintro ⟨Ar0, cr0, rfl, _, _, _, kr, _⟩
  refine sw_fact (fun w H => sl_form (hl w H).sl) ?_
  rintro ⟨Al0, cl0, rfl, _, _, _, kl, _⟩
  (refine sw_seq ?_; refine sw_region ?_; (iterate 2 refine so_1 rfl ?_); refine so_nil ?_; refine sn_then ?_; refine sw_seq ?_; refine sw_region ?_; (iterate 3 refine so_1 rfl ?_))
  cases hnb : newB L.length own with
  | false =>
    refine so_call rfl rfl rfl (rNew_bad (n := (L.length : Int)) (own := own) (fun q => by rw [newB_iff.2 ⟨by omega, by omega, q.2.2.1, q.2.2.2⟩] at hnb; cases hnb)) ?_
    rintro _ _ ⟨rfl, rfl⟩
    ((iterate 5 refine so_1 rfl ?_); refine so_nil ?_; refine sn_then ?_; (iterate 2 refine sw_seq ?_); refine sw_region ?_; (iterate 2 refine so_1 rfl ?_); refine so_nil ?_; refine sn_then ?_; refine sw_cond_t rfl ?_; refine sw_seq ?_; refine sw_region ?_; (iterate 3 refine so_1 rfl ?_); refine so_nil ?_; refine sn_then ?_; refine sw_ret ?_; refine sn_then_ret ?_)
    refine sn_ret rfl (.tmp rfl (.tmp rfl .nil)) (Ent.refl _) ?_
    have e : loadErr own (L.map Prod.snd) l = 3 := by unfold loadErr; rw [hRl, hnb]; rfl
    rw [e]
    exact .inl ⟨by decide, rfl, rfl⟩
  | true =>
  obtain ⟨a1, a2, a3, a4⟩ := newB_iff.1 hnb
  obtain ⟨q0, rfl⟩ : ∃ q0 : Nat, own = (q0 : Int) + 1 := ⟨own.toNat - 1, by omega⟩
  have hq0 : q0 < L.length := by omega
  refine so_call rfl rfl rfl (rNew_S hnb) ?_
  rintro _ _ ⟨h, Ar, cr, LR0, hLR0, rfl, rfl⟩
  have e0 : List.replicate L.length (List.replicate L.length 0) = partR (L.map Prod.snd) 0 := by simp [partR]
  rw [e0] at hLR0
  refine so_fact (fun w H => (H.oat (k := 1) rfl).form) ?_
  rintro ⟨A', c', hv, _, _, q4⟩
  cases hv
  obtain ⟨g9, o9, rfl⟩ := q4 (by omega)
  ((iterate 5 refine so_1 rfl ?_); refine so_nil ?_; refine sn_then ?_; (iterate 2 refine sw_seq ?_); refine sw_region ?_; (iterate 2 refine so_1 rfl ?_); refine so_nil ?_; refine sn_then ?_; refine sw_cond_f rfl ?_; refine sw_skip ?_; refine sn_then ?_; (iterate 2 refine sw_seq ?_); refine sw_region ?_; refine so_1 rfl ?_; refine so_nil ?_; refine sn_then ?_; refine sw_block ?_)
  refine sw_loop (S := Nat × List (Value × List Int)) (fun s => [(0, .int .i64 ((q0 : Int) + 1)), (1, .slice Ar0 L.length cr0), (2, .slice Al0 l.length cl0), (8, .pointer (some ⟨h, 0, none⟩)), (10, .int .i64 (s.1 : Int))])
    (fun s => stQ h ((q0 : Int) + 1) (some ⟨g9, o9, none⟩) cr L.length s.2 none 0 0 [] F) (fun s => s.1 ≤ L.length ∧ s.2.map Prod.snd = partR (L.map Prod.snd) s.1 ∧ ∀ r ∈ (L.map Prod.snd).take s.1, numB L.length r = true) (fun s => L.length - s.1) (0, LR0) ⟨rfl, rfl, rfl, rfl, rfl, trivial⟩ (Ent.refl _) ⟨Nat.zero_le _, hLR0, fun r hr => by simp at hr⟩ ?_
  rintro ⟨i, LR⟩ ⟨hi, hLR, hP⟩
  dsimp only at hi hLR hP ⊢
  have hpl := partR_len (L.map Prod.snd) (i := i) (by omega)
  have hLl : LR.length = L.length := by have := congrArg List.length hLR; rw [List.length_map] at this; omega
  ((iterate 2 refine sw_seq ?_); refine sw_region ?_; (iterate 4 refine so_1 rfl ?_); refine so_nil ?_; refine sn_then ?_)
  refine sw_if rfl (fun h1 => ?_) (fun h1 => ?_)
  · have h1' : i < L.length := by omega
    obtain ⟨gg, oo, rfl⟩ := kr (by omega)
    have hmem := List.getElem_mem h1'
    have hc : (L.map Prod.fst)[i]? = some L[i].1 := by rw [List.getElem?_map, List.getElem?_eq_getElem h1']; rfl
    have hg : (L.map Prod.snd)[i]'(by omega) = L[i].2 := List.getElem_map _
    have hRt : (L.map Prod.snd).take (i + 1) = (L.map Prod.snd).take i ++ [L[i].2] := by rw [List.take_succ_eq_append_getElem (by omega), hg]
    have hps := partR_set (R := L.map Prod.snd) (i := i) (by omega)
    rw [hg, ← hLR] at hps
    have hin : L[i].2 ∈ L.map Prod.snd := List.mem_map_of_mem hmem
    generalize L[i] = p at *
    have hv : ∀ w, Sat b F w → VL (Value.int .i64) w p.1 p.2 := fun w H => (hr w H).vl p hmem
    have hcell : ∀ w, Sat b F w → w.cell? ⟨gg, oo + i, none⟩ = some p.1 := fun w H => (sl_cell (hr w H).sl (by rw [List.length_map]; exact h1')).trans hc
    (refine sw_skip ?_; refine sn_then ?_; refine sw_seq ?_; refine sw_block ?_; (iterate 2 refine sw_seq ?_); refine sw_region ?_; (iterate 2 refine so_1 rfl ?_); refine so_2 rfl (by omega) ?_)
    refine so_rd rfl (fun w H => ex_load rfl rfl rfl (by rw [mulz_eq, Int.toNat_natCast, Nat.mul_one]; exact hcell w (H.ent (ent_keep 5 [] rfl rfl)))) rfl ?_
    ((iterate 2 refine so_1 rfl ?_))
    refine so_callE rfl rfl rfl (rnum_S (up hv (ent_keep 5 [] rfl rfl))) ?_
    (refine so_1 rfl ?_; refine so_nil ?_; refine sn_then ?_)
    refine sw_cond rfl (fun q => ?_) (fun q => ?_)
    · have q' : numB L.length p.2 = false := by simpa using q
      (refine sw_seq ?_; refine sw_region ?_; (iterate 2 refine so_1 rfl ?_); refine so_nil ?_; refine sn_then ?_; refine sw_ret ?_; refine sn_then_ret ?_; refine sn_block_ret ?_; refine sn_then_ret ?_; refine sn_loop_ret ?_; refine sn_block_ret ?_; refine sn_then_ret ?_)
      refine sn_ret rfl (.tmp rfl (.tmp rfl .nil)) (ent_keep 5 [] rfl rfl) ?_
      have e : loadErr ((q0 : Int) + 1) (L.map Prod.snd) l = 2 := by
        have ha : (L.map Prod.snd).all (numB (L.map Prod.snd).length) = false := by
          rw [hRl]
          refine List.all_eq_false.2 ⟨p.2, hin, by rw [q']; simp⟩
        unfold loadErr
        rw [ha, hRl, hnb]; rfl
      rw [e]
      exact .inl ⟨by decide, rfl, rfl⟩
    · have q' : numB L.length p.2 = true := by simpa using q
      have hpl2 := (numB_iff.1 q').1
      have hq : i < LR.length := by omega
      have hset : ∀ nv : Value, spl (LR.map Prod.fst) i [nv] = (LR.set i (nv, p.2)).map Prod.fst := fun nv => by
        rw [spl, List.map_set, List.set_eq_take_append_cons_drop, if_pos (by rw [List.length_map]; exact hq)]; simp
      (refine sw_skip ?_; refine sn_then ?_)
      refine sw_draw2 flo 10 (stQ h ((q0 : Int) + 1) (some ⟨g9, o9, none⟩) cr L.length LR none 0 0 [] F) [] rfl (by decide +kernel) (Ent.refl _) ?_
      ((iterate 3 refine sd_1 rfl (.inl rfl) ?_); refine sd_l 0 rfl rfl rfl rfl ?_; (iterate 3 refine sd_1 rfl (.inl rfl) ?_); refine sd_2 rfl rfl (by omega) ?_)
      refine sd_rd rfl (fun w H => ex_load rfl rfl rfl (by rw [mulz_eq, Int.toNat_natCast, Nat.mul_one]; exact hcell w (H.ent (ent_keep 5 [] rfl rfl)))) rfl rfl ?_
      skip
      refine sd_call rfl rfl rfl rfl (CopyInts_S (up hv (ent_keep 5 [] rfl rfl)) (by omega)) ?_
      rintro cv _ rfl
      refine ⟨ent_keep 1 [] rfl rfl, ?_⟩
      refine sd_fact (fun w H => (H.oat (k := 0) rfl).form) ?_
      rintro ⟨Aj, cj, rfl, _, _, _⟩
      skip
      refine sd_nil (sn_draw2 rfl (ent_nil _) ?_)
      (refine sd_2 rfl rfl (by omega) ?_)
      refine sd_strow 2 i rfl rfl rfl rfl rfl rfl rfl rfl rfl (hset _) rfl (by rw [mulz_eq, Int.toNat_natCast, Nat.mul_one]) (by rw [List.length_map]; exact hq) (by simp [Value.oneCell']) (ent_nil _) ?_
      refine sd_nil ?_
      (refine sn_block ?_; refine sn_then ?_; refine sw_region ?_; refine so_1 rfl ?_; refine so_2 rfl (by (unfold I64; omega)) ?_; refine so_1 rfl ?_; refine so_nil ?_)
      rw [show (i : Int) + 1 = ((i + 1 : Nat) : Int) by omega]
      refine sn_round (i + 1, LR.set i (.slice Aj p.2.length cj, p.2)) ⟨rfl, rfl, rfl, rfl, rfl, trivial⟩ ((ent_keep 6 [3, 0, 1, 2, 4, 5] rfl rfl).trans ((ent_vset hq (.slice Aj p.2.length cj, p.2)).trans (ent_keep 5 [1, 2, 0, 3, 4] rfl rfl))) ⟨h1', ?_, fun r hr => ?_⟩ (by dsimp only; omega)
      · dsimp only
        rw [List.map_set]; exact hps
      · dsimp only at hr
        rw [hRt] at hr
        rcases List.mem_append.1 hr with hr | hr
        · exact hP r hr
        · rw [List.mem_singleton.1 hr]; exact q'
  · obtain rfl : i = L.length := by omega
    have hpf : partR (L.map Prod.snd) L.length = L.map Prod.snd := by rw [partR, hRl, Nat.sub_self, ← hRl, List.take_length]; simp
    rw [hpf] at hLR
    have hall : (L.map Prod.snd).all (numB (L.map Prod.snd).length) = true := by
      refine List.all_eq_true.2 fun r hr => ?_
      rw [hRl]
      refine hP r ?_
      rw [← hRl, List.take_length]; exact hr
    have hE : loadErr ((q0 : Int) + 1) (L.map Prod.snd) l = ldErr (L.map Prod.snd) ((L.map Prod.snd).getD q0 []) [] l := by
      unfold loadErr
      rw [hall, hRl, hnb, show ((q0 : Int) + 1).toNat - 1 = q0 by omega]; rfl
    have hok : RowsOk (LR.map Prod.snd) := by rw [hLR]; exact rowsOk_of (by omega) (by omega) hall
    rw [hE]
    clear hr hpl hP hpf hE e0 hall hnb kr hRl hLR0
    have hq' : q0 < LR.length := by omega
    have hq : (L.map Prod.snd).getD q0 [] = LR[q0].2 := by rw [← hLR, List.getD_eq_getElem?_getD, List.getElem?_map, List.getElem?_eq_getElem hq']; rfl
    have hc9 : (LR.map Prod.fst)[q0]? = some LR[q0].1 := by rw [List.getElem?_map, List.getElem?_eq_getElem hq']; rfl
    have hmq := List.getElem_mem hq'
    rw [hq]
    generalize LR[q0] = p at *
    have e8 : ((q0 : Int) + 1 - 1).toNat = q0 := by omega
    rw [← hLR]
    have hRl2 : (LR.map Prod.snd).length = L.length := by rw [List.length_map, hLl]
    (refine sw_exit ?_; refine sn_then_exit ?_; refine sn_loop_exit ?_; refine sn_block_exit ?_; refine sn_then ?_; (iterate 2 refine sw_seq ?_); refine sw_region ?_; refine so_1 rfl ?_; refine so_nil ?_; refine sn_then ?_; refine sw_block ?_)
    refine sw_loop (S := Nat × List Ev × Option Addr × Nat) (fun s => [(0, .int .i64 ((q0 : Int) + 1)), (1, .slice Ar0 L.length cr0), (2, .slice Al0 l.length cl0), (8, .pointer (some ⟨h, 0, none⟩)), (11, .int .i64 (s.1 : Int))])
      (fun s => stQ h ((q0 : Int) + 1) (some ⟨g9, o9, none⟩) cr L.length LR s.2.2.1 s.2.2.2 s.1 s.2.1 F) (fun s => s.1 ≤ l.length ∧ s.2.1.map nE = (l.take s.1).map nE ∧ ldErr (LR.map Prod.snd) p.2 [] l = ldErr (LR.map Prod.snd) p.2 (l.take s.1) (l.drop s.1)) (fun s => l.length - s.1) (0, [], none, 0) ⟨rfl, rfl, rfl, rfl, rfl, trivial⟩ (Ent.refl _) ⟨Nat.zero_le _, rfl, rfl⟩ ?_
    rintro ⟨i, D, A, c⟩ ⟨hi, hD, hE⟩
    dsimp only at hi hD hE ⊢
    have hDl : D.length = i := by have := congrArg List.length hD; rw [List.length_map, List.length_map, List.length_take] at this; omega
    have hDm : ∀ e ∈ D, EvM e := evM_sub hm fun y hy => by
      rw [hD] at hy
      obtain ⟨f, hf, hfe⟩ := List.mem_map.1 hy
      exact List.mem_map.2 ⟨f, List.mem_of_mem_take hf, hfe⟩
    subst hDl
    ((iterate 2 refine sw_seq ?_); refine sw_region ?_; (iterate 4 refine so_1 rfl ?_); refine so_nil ?_; refine sn_then ?_)
    refine sw_if rfl (fun h2 => ?_) (fun h2 => ?_)
    · have h2' : D.length < l.length := by omega
      obtain ⟨gg, oo, rfl⟩ := kl (by omega)
      have hmem := List.getElem_mem h2'
      have hsn : l.take (D.length + 1) = l.take D.length ++ [l[D.length]] := List.take_succ_eq_append_getElem h2'
      have hdr : l.drop D.length = l[D.length] :: l.drop (D.length + 1) := List.drop_eq_getElem_cons h2'
      have hc : ∀ w, Sat b F w → ∀ j, j < 39 → w.cell? ⟨gg, oo + D.length * 39 + j, none⟩ = (evC l[D.length])[j]? := fun w H j hj => ev_cell (hl w H) h32 h2' hj
      have her : ∀ w, Sat b F w → ER w l[D.length] := fun w H => (hl w H).er _ hmem
      have hxm := hm _ hmem
      generalize l[D.length] = e at *
      rw [hdr, ldErr, ← evErr_nE hD, ← hsn] at hE
      have hxl := evC_len hxm.l32
      refine sw_fact (fun w H => er_form (her w (H.ent (ent_keep 5 [] rfl rfl)))) ?_
      rintro ⟨o1, o2⟩
      have hx1 := evC_one o1 o2
      have hcd : ∀ w, Sat b F w → ∀ j, j < 2 → w.cell? ⟨gg, oo + D.length * 39 + j, none⟩ = [Value.int .i64 e.r, Value.int .i64 e.n][j]? := fun w H j hj => by
        rw [hc w H j (by omega)]
        match j, hj with
        | 0, _ => rfl
        | 1, _ => rfl
      (refine sw_skip ?_; refine sn_then ?_; refine sw_seq ?_; refine sw_block ?_; refine sw_seq ?_; refine sw_region ?_; (iterate 3 refine so_1 rfl ?_); refine so_2 rfl (by omega) ?_; refine so_1 rfl ?_)
      refine so_rd rfl (fun w H => ex_loadN (cs := [.int .i64 e.r, .int .i64 e.n]) rfl rfl rfl rfl (fun j hj => by rw [mulz_eq, Int.toNat_natCast]; exact hcd w (H.ent (ent_keep 5 [] rfl rfl)) j hj)) rfl ?_
      refine so_call rfl rfl rfl (rFind_S (d := dotE e) hDm rfl (by omega)) ?_
      rintro _ _ ⟨y, hyn, rfl, rfl⟩
      have hym : EvM y := (lkE_m hDm (dotE e)).nE hyn
      have hyl : (evC y).length = 39 := evC_len hym.l32
      refine so_fact (fun w H => (H.oat (k := 0) rfl).form) ?_
      rintro ⟨A2, c2, hdv, _, _, _⟩
      refine so_fact (fun w H => (H.oat (k := 1) rfl).form) ?_
      rintro ⟨A3, c3, hrv, _, _, _⟩
      have hy1 := evC_one (e := y) (by rw [hdv]; rfl) (by rw [hrv]; rfl)
      refine so_ent (G := stQ h ((q0 : Int) + 1) (some ⟨g9, o9, none⟩) cr L.length LR A c D.length D F) (ent_keep 2 [] rfl rfl) ?_
      clear hdv hrv
      ((iterate 3 refine so_1 rfl ?_))
      refine so_new rfl rfl rfl rfl rfl fun g6 => ?_
      refine so_stW 0 rfl rfl rfl rfl rfl rfl rfl hyl hy1 (by rw [hyl]; rfl) ?_
      (refine so_1 rfl ?_; refine so_nil ?_; refine sn_then ?_; refine sw_seq ?_; refine sw_block ?_; refine sw_seq ?_; refine sw_region ?_; (iterate 2 refine so_1 rfl ?_); refine so_2 rfl (by omega) ?_)
      refine so_rd rfl (fun w H => ex_loadN (cs := evC e) rfl rfl rfl hxl (fun j hj => by rw [mulz_eq, Int.toNat_natCast]; exact hc w (H.ent (ent_keep 6 [] rfl rfl)) j (by rw [hxl] at hj; exact hj))) rfl ?_
      ((iterate 2 refine so_1 rfl ?_))
      refine so_callE rfl rfl rfl (rfits_S (up her (ent_keep 6 [] rfl rfl))) ?_
      ((iterate 2 refine so_1 rfl ?_); refine so_nil ?_; refine sn_then ?_)
      generalize his : (findE D (dotE e)).isSome = is at *
      refine sw_cond rfl (fun q1 => ?_) (fun q1 => ?_)
      · have q1' : fitB L.length e = false := by simpa using q1
        have ee : evErr (LR.map Prod.snd) p.2 D e = 2 := if_pos (by rw [hRl2]; exact q1')
        rw [ee, if_neg (by decide)] at hE
        (refine sw_seq ?_; refine sw_region ?_; (iterate 2 refine so_1 rfl ?_); refine so_nil ?_; refine sn_then ?_; refine sw_ret ?_; refine sn_block_ret ?_; refine sn_then_ret ?_; refine sn_block_ret ?_; refine sn_then_ret ?_; refine sn_loop_ret ?_; refine sn_block_ret ?_; refine sn_then_ret ?_)
        refine sn_ret rfl (.tmp rfl (.tmp rfl .nil)) (ent_keep 6 [] rfl rfl) ?_
        rw [hE]; exact .inl ⟨by decide, rfl, rfl⟩
      have q1' : fitB L.length e = true := by simpa using q1
      (refine sw_seq ?_)
      refine sw_draw flo (stQ h ((q0 : Int) + 1) (some ⟨g9, o9, none⟩) cr L.length LR A c D.length D F) (by decide +kernel) (ent_keep 1 [] rfl rfl) ?_
      ((iterate 3 refine sd_1 rfl (.inl rfl) ?_); refine sd_l 0 rfl rfl rfl rfl ?_; refine sd_1 rfl (.inl rfl) ?_; refine sd_2 rfl rfl (by (unfold I64; omega)) ?_; refine sd_2 rfl rfl (by omega) ?_)
      refine sd_rd rfl (fun w H => ex_load rfl rfl rfl (by rw [mulz_eq, e8, Nat.mul_one]; exact row_cell (k := 1) rfl hc9 w H)) rfl rfl ?_
      ((iterate 2 refine sd_1 rfl (.inl rfl) ?_); refine sd_2 rfl rfl (by omega) ?_; refine sd_1 rfl (.inl rfl) ?_)
      refine sd_rd rfl (fun w H => ex_loadN (cs := [.int .i64 e.r, .int .i64 e.n]) rfl rfl rfl rfl (fun j hj => by rw [mulz_eq, Int.toNat_natCast]; exact hcd w (H.ent (ent_keep 5 [] rfl rfl)) j hj)) rfl rfl ?_
      refine sd_callE rfl rfl rfl rfl ((rHas_S (vF_vl (k := 3) rfl hmq))) (ent_keep 1 [] rfl rfl) ?_
      ((iterate 2 refine sd_1 rfl (.inl rfl) ?_))
      refine sd_nil ?_
      (refine sn_then ?_)
      refine sw_cond rfl (fun q2 => ?_) (fun q2 => ?_)
      · have q2' : hasL p.2 e.r e.n = false := by simpa using q2
        have ee : evErr (LR.map Prod.snd) p.2 D e = 25 := by unfold evErr; rw [hRl2, if_neg (by rw [q1']; simp), if_pos q2']
        rw [ee, if_neg (by decide)] at hE
        (refine sw_seq ?_; refine sw_region ?_; (iterate 2 refine so_1 rfl ?_); refine so_nil ?_; refine sn_then ?_; refine sw_ret ?_; refine sn_block_ret ?_; refine sn_then_ret ?_; refine sn_block_ret ?_; refine sn_then_ret ?_; refine sn_loop_ret ?_; refine sn_block_ret ?_; refine sn_then_ret ?_)
        refine sn_ret rfl (.tmp rfl (.tmp rfl .nil)) (ent_keep 6 [] rfl rfl) ?_
        rw [hE]; exact .inl ⟨by decide, rfl, rfl⟩
      have q2' : hasL p.2 e.r e.n = true := by simpa using q2
      (refine sw_seq ?_; refine sw_region ?_; (iterate 2 refine so_1 rfl ?_); refine so_nil ?_; refine sn_then ?_)
      cases is with
      | true =>
        have ee : evErr (LR.map Prod.snd) p.2 D e = 19 := by unfold evErr; rw [hRl2, if_neg (by rw [q1']; simp), if_neg (by rw [q2']; simp), if_pos his]
        rw [ee, if_neg (by decide)] at hE
        (refine sw_cond_t rfl ?_; refine sw_seq ?_; refine sw_region ?_; (iterate 2 refine so_1 rfl ?_); refine so_nil ?_; refine sn_then ?_; refine sw_ret ?_; refine sn_block_ret ?_; refine sn_then_ret ?_; refine sn_block_ret ?_; refine sn_then_ret ?_; refine sn_loop_ret ?_; refine sn_block_ret ?_; refine sn_then_ret ?_)
        refine sn_ret rfl (.tmp rfl (.tmp rfl .nil)) (ent_keep 6 [] rfl rfl) ?_
        rw [hE]; exact .inl ⟨by decide, rfl, rfl⟩
      | false =>
        have ee : evErr (LR.map Prod.snd) p.2 D e = 0 := by unfold evErr; rw [hRl2, if_neg (by rw [q1']; simp), if_neg (by rw [q2']; simp), if_neg (by rw [his]; simp)]
        rw [ee, if_pos rfl] at hE
        (refine sw_cond_f rfl ?_; refine sw_skip ?_; refine sn_block ?_; refine sn_then ?_)
        refine sw_draw2 flo 12 (pt h t_entrepotref24_Matrix [.int .i64 ((q0 : Int) + 1), .slice (some ⟨g9, o9, none⟩) L.length cr, .slice A D.length c] :: F) [] rfl (by decide +kernel) (ent_keep 6 [1] rfl rfl) ?_
        ((iterate 4 refine sd_1 rfl (.inl rfl) ?_); refine sd_l 0 rfl rfl rfl rfl ?_; (iterate 2 refine sd_1 rfl (.inl rfl) ?_); refine sd_2 rfl rfl (by omega) ?_)
        refine sd_rd rfl (fun w H => ex_loadN (cs := evC e) rfl rfl rfl hxl (fun j hj => by rw [mulz_eq, Int.toNat_natCast]; exact hc w (H.ent (ent_keep 1 [] rfl rfl)) j (by rw [hxl] at hj; exact hj))) rfl rfl ?_
        refine sd_call rfl rfl rfl rfl (CopyEvent_S (up her (ent_keep 6 [] rfl rfl)) hxm.l32 hxm.dn hxm.rn) ?_
        rintro _ _ ⟨dv, rv, rfl, rfl⟩
        refine ⟨ent_keep 8 [3] rfl rfl, ?_⟩
        refine sd_fact (fun w H => (H.oat (k := 0) rfl).form) ?_
        rintro ⟨A2, c2, rfl, _, _, _⟩
        refine sd_fact (fun w H => (H.oat (k := 1) rfl).form) ?_
        rintro ⟨A3, c3, rfl, _, _, _⟩
        have hzl := evC_len (e := e.own (.slice A2 e.deps.length c2) (.slice A3 e.refs.length c3)) hxm.l32
        have hz1 := evC_one (e := e.own (.slice A2 e.deps.length c2) (.slice A3 e.refs.length c3)) rfl rfl
        have hzn : nE (e.own (.slice A2 e.deps.length c2) (.slice A3 e.refs.length c3)) = nE e := rfl
        have hzP : evP (e.own (.slice A2 e.deps.length c2) (.slice A3 e.refs.length c3)) = [rZ (.slice A2 e.deps.length c2) e.deps, rD (.slice A3 e.refs.length c3) e.refs] := rfl
        generalize e.own (.slice A2 e.deps.length c2) (.slice A3 e.refs.length c3) = x at *
        refine sd_lit1 rfl rfl rfl rfl rfl rfl rfl rfl hzl (by decide) (ent_keep 8 [3] rfl rfl) fun gl => ?_
        refine sd_append 7 rfl rfl rfl rfl rfl rfl rfl rfl rfl rfl (m := 1) (news := evC x) (fun w H => (H.blk (k := 0) rfl).sl (by rw [hzl]) (by decide)) hz1 (by omega) (fun _ => rfl) (fun _ => ent_keep 9 [4] rfl rfl) fun v' => ?_
        refine sd_fact (fun w H => (H.oat (k := 7) rfl).form) ?_
        rintro ⟨A', c', rfl, _, _, _⟩
        skip
        refine sd_nil (sn_draw2 rfl (ent_nil _) ?_)
        ((iterate 2 refine sd_1 rfl (.inl rfl) ?_))
        refine sd_st 4 rfl rfl rfl rfl rfl rfl rfl rfl rfl rfl rfl (ent_nil _) ?_
        refine sd_nil ?_
        (refine sn_block ?_; refine sn_then ?_; refine sw_region ?_; refine so_1 rfl ?_; refine so_2 rfl (by (unfold I64; omega)) ?_; refine so_1 rfl ?_; refine so_nil ?_)
        rw [show (D.length : Int) + 1 = ((D.length + 1 : Nat) : Int) by omega]
        refine sn_ent (G := evP x ++ (all (evF D) :: pt h t_entrepotref24_Matrix [.int .i64 ((q0 : Int) + 1), .slice (some ⟨g9, o9, none⟩) L.length cr, .slice A' (D.length + 1) c'] :: rRn (some ⟨g9, o9, none⟩) cr L.length LR :: all (vF LR) :: rEn A' c' (D.length + 1) (D ++ [x]) :: F)) (by rw [hzP, rEn, evsC_snoc]; exact ent_keep 9 [1, 2, 8, 4, 5, 6, 7] rfl rfl) ?_
        refine sn_ent (ent_in (A := evF (D ++ [x])) evF_snoc) ?_
        refine sn_round (D.length + 1, D ++ [x], A', c') ⟨rfl, rfl, rfl, rfl, rfl, trivial⟩ (ent_keep 5 [1, 2, 3, 4, 0] rfl rfl) ⟨h2', ?_, hE⟩ (by dsimp only; omega)
        dsimp only
        rw [hsn, List.map_append, List.map_append, hD]; simp [hzn]
    · have hll : D.length = l.length := by omega
      rw [hll, List.take_length] at hD
      rw [hll, List.drop_length] at hE
      refine sw_fact (fun w H => (H.oat (k := 3) rfl).form) ?_
      rintro ⟨A', c', hv', _, _, _⟩
      cases hv'
      (refine sw_exit ?_; refine sn_then_exit ?_; refine sn_loop_exit ?_; refine sn_block_exit ?_; refine sn_then ?_; refine sw_seq ?_; refine sw_region ?_; (iterate 4 refine so_1 rfl ?_); refine so_l 0 rfl rfl rfl ?_)
      refine so_call rfl rfl rfl (rSort_S (l := D) (rEs_el (k := 3) (j := 4) rfl rfl) hDm (by omega)) ?_
      rintro u _ ⟨D2, hD2, rfl⟩
      refine so_fact (fun w H => (H.oat (k := 0) rfl).form) ?_
      rintro ⟨A7, c7, rfl, _, _, _⟩
      ((iterate 2 refine so_1 rfl ?_); refine so_s1 2 rfl rfl rfl rfl ?_; refine so_nil ?_; refine sn_then ?_; refine sw_seq ?_; refine sw_region ?_; (iterate 3 refine so_1 rfl ?_); refine so_nil ?_; refine sn_then ?_; refine sw_ret ?_)
      refine sn_ret rfl (.tmp rfl (.tmp rfl .nil)) (ent_keep 7 [2, 3, 4, 0, 1] rfl rfl) ?_
      rw [hD] at hD2
      exact .inr ⟨hE, h, _, cr, LR, A7, c7, D2, rfl, rfl, hD2, rfl⟩
end
end Go.Proofs.Ytajbpdmhpcpkgaa
/- Who has what, part twenty: the kit's functions on rows and events. Conditions: not too many. -/
namespace Go.Proofs.Ytajbpdmhpcpkgaa
open Go Go.Eng Go.RowKit Go.WideMaps

theorem vF_rl {b : World} {F : List SP} {L : List (Value × List Int)} {v : Value} {j k : Nat} (hj : nth F j = some (rRs v L)) (hk : nth F k = some (all (vF L))) : ∀ w, Sat b F w → RL w v L := fun w H => ⟨by have := (H.oat hj).sl; exact this, fun m hm => vF_vl hk hm w H⟩
section
variable {b : World} {F : List SP} {v : Value}
set_option maxRecDepth 20000 in
set_option maxHeartbeats 4000000 in
theorem SameEvents_S {va vb : Value} {l m : List Ev} (h : l.map nE = m.map nE) (ha : ∀ w, Sat b F w → EL w va l) (hb : ∀ w, Sat b F w → EL w vb m) (h32 : ∀ x ∈ l, x.id.length = 32 ∧ len32 x.refs ∧ x.refs.length ≤ 1000000) :
    SC Try.prog n_entrepotkit_SameEvents [va, vb] b F (fun v F' => v = .bool true ∧ F' = F) := by
  have hl : l.length = m.length := by have := congrArg List.length h; rwa [List.length_map, List.length_map] at this
  have hA32 : ∀ x ∈ l, x.id.length = 32 := fun x hx => (h32 x hx).1
  have hB32 : ∀ x ∈ m, x.id.length = 32 := fun x hx => by
    have : nE x ∈ l.map nE := by rw [h]; exact List.mem_map_of_mem hx
    obtain ⟨y, hy, hyx⟩ := List.mem_map.1 this
    rw [← show (nE y).id = x.id by rw [hyx]; rfl]; exact (h32 y hy).1
  refine enterS F_entrepotkit_SameEvents rfl rfl rfl ?_
  refine sw_fact (fun w H => sl_form (ha w H).sl) ?_
  rintro ⟨A, c, rfl, _, _, _, k4, _⟩
  refine sw_fact (fun w H => sl_form (hb w H).sl) ?_
  rintro ⟨B, c2, rfl, _, _, _, k5, _⟩
  (refine sw_seq ?_; refine sw_region ?_; refine so_1 rfl ?_; refine so_nil ?_; refine sn_then ?_; refine sw_seq ?_; refine sw_region ?_; (iterate 6 refine so_1 rfl ?_); refine so_nil ?_; refine sn_then ?_; (iterate 2 refine sw_seq ?_); refine sw_region ?_; refine so_1 rfl ?_; refine so_nil ?_; refine sn_then ?_; refine sw_block ?_)
  refine sw_know 5 (.bool true) rfl (congrArg Value.bool (decide_eq_true (by omega))) ?_
  refine sw_loop (S := Nat) (fun i => [(0, .slice A l.length c), (1, .slice B m.length c2), (5, .bool true), (6, .int .i64 (i : Int))]) (fun _ => F) (fun i => i ≤ l.length) (fun i => l.length - i) 0 ⟨rfl, rfl, rfl, rfl, trivial⟩ (Ent.refl _) (Nat.zero_le _) ?_
  intro i hi
  ((iterate 2 refine sw_seq ?_); refine sw_region ?_; (iterate 7 refine so_1 rfl ?_); refine so_nil ?_; refine sn_then ?_)
  refine sw_if rfl (fun h1 => ?_) (fun h1 => ?_)
  · have h1' : i < l.length := by omega
    have h2' : i < m.length := by omega
    obtain ⟨g1, o1, rfl⟩ := k4 (by omega)
    obtain ⟨g2, o2, rfl⟩ := k5 (by omega)
    have hxy : nE l[i] = nE m[i] := by
      have := congrArg (·[i]?) h
      simpa [h1', h2'] using this
    have hc1 : ∀ w, Sat b F w → ∀ j, j < 39 → w.cell? ⟨g1, o1 + i * 39 + j, none⟩ = (evC l[i])[j]? := fun w H j hj => ev_cell (ha w H) hA32 h1' hj
    have hc2 : ∀ w, Sat b F w → ∀ j, j < 39 → w.cell? ⟨g2, o2 + i * 39 + j, none⟩ = (evC m[i])[j]? := fun w H j hj => ev_cell (hb w H) hB32 h2' hj
    have he1 : ∀ w, Sat b F w → ER w l[i] := fun w H => (ha w H).er _ (List.getElem_mem h1')
    have he2 : ∀ w, Sat b F w → ER w m[i] := fun w H => (hb w H).er _ (List.getElem_mem h2')
    obtain ⟨x32, xr, xn⟩ := h32 _ (List.getElem_mem h1')
    have y32 := hB32 _ (List.getElem_mem h2')
    generalize l[i] = x at *
    generalize m[i] = y at *
    have xl := evC_len x32
    have yl := evC_len y32
    (refine sw_skip ?_; refine sn_then ?_; refine sw_seq ?_; refine sw_block ?_)
    refine sw_draw flo F (by decide +kernel) (Ent.refl _) ?_
    ((iterate 2 refine sd_1 rfl (.inl rfl) ?_); refine sd_2 rfl rfl (by omega) ?_)
    refine sd_rd rfl (fun w H => ex_loadN (cs := evC x) rfl rfl rfl xl (fun j hj => by rw [mulz_eq, Int.toNat_natCast]; exact hc1 w H j (by rw [xl] at hj; exact hj))) rfl rfl ?_
    ((iterate 2 refine sd_1 rfl (.inl rfl) ?_); refine sd_2 rfl rfl (by omega) ?_)
    refine sd_rd rfl (fun w H => ex_loadN (cs := evC y) rfl rfl rfl yl (fun j hj => by rw [mulz_eq, Int.toNat_natCast]; exact hc2 w H j (by rw [yl] at hj; exact hj))) rfl rfl ?_
    refine sd_callE rfl rfl rfl rfl ((SameEvent_S hxy he1 he2 x32 xr xn)) (Ent.refl _) ?_
    (refine sd_1 rfl (.inl rfl) ?_)
    refine sd_nil ?_
    (refine sn_block ?_; refine sn_then ?_; refine sw_region ?_; refine so_1 rfl ?_; refine so_2 rfl (by (unfold I64; omega)) ?_; refine so_1 rfl ?_; refine so_nil ?_)
    rw [show (i : Int) + 1 = ((i + 1 : Nat) : Int) by omega]
    exact sn_round (i + 1) ⟨rfl, rfl, rfl, rfl, trivial⟩ (Ent.refl _) h1' (by omega)
  · (refine sw_exit ?_; refine sn_then_exit ?_; refine sn_loop_exit ?_; refine sn_block_exit ?_; refine sn_then ?_; refine sw_seq ?_; refine sw_region ?_; (iterate 2 refine so_1 rfl ?_); refine so_nil ?_; refine sn_then ?_; refine sw_ret ?_)
    refine sn_ret rfl (.tmp rfl .nil) (Ent.refl _) ?_
    exact ⟨rfl, rfl⟩
set_option maxRecDepth 20000 in
set_option maxHeartbeats 4000000 in
theorem SameRows_S {va vb : Value} {l m : List (Value × List Int)} (h : l.map Prod.snd = m.map Prod.snd) (ha : ∀ w, Sat b F w → RL w va l) (hb : ∀ w, Sat b F w → RL w vb m) :
    SC Try.prog n_entrepotkit_SameRows [va, vb] b F (fun v F' => v = .bool true ∧ F' = F) := by
  have hl : l.length = m.length := by have := congrArg List.length h; rwa [List.length_map, List.length_map] at this
  refine enterS F_entrepotkit_SameRows rfl rfl rfl ?_
  refine sw_fact (fun w H => sl_form (ha w H).sl) ?_
  rintro ⟨A, c, rfl, _, _, _, k4, _⟩
  refine sw_fact (fun w H => sl_form (hb w H).sl) ?_
  rintro ⟨B, c2, rfl, _, _, _, k5, _⟩
  (refine sw_seq ?_; refine sw_region ?_; refine so_1 rfl ?_; refine so_nil ?_; refine sn_then ?_; refine sw_seq ?_; refine sw_region ?_; (iterate 6 refine so_1 rfl ?_); refine so_nil ?_; refine sn_then ?_; (iterate 2 refine sw_seq ?_); refine sw_region ?_; refine so_1 rfl ?_; refine so_nil ?_; refine sn_then ?_; refine sw_block ?_)
  refine sw_know 5 (.bool true) rfl (congrArg Value.bool (decide_eq_true (by omega))) ?_
  refine sw_loop (S := Nat) (fun i => [(0, .slice A l.length c), (1, .slice B m.length c2), (5, .bool true), (6, .int .i64 (i : Int))]) (fun _ => F) (fun i => i ≤ l.length) (fun i => l.length - i) 0 ⟨rfl, rfl, rfl, rfl, trivial⟩ (Ent.refl _) (Nat.zero_le _) ?_
  intro i hi
  ((iterate 2 refine sw_seq ?_); refine sw_region ?_; (iterate 7 refine so_1 rfl ?_); refine so_nil ?_; refine sn_then ?_)
  refine sw_if rfl (fun h1 => ?_) (fun h1 => ?_)
  · have h1' : i < l.length := by omega
    have h2' : i < m.length := by omega
    obtain ⟨g1, o1, rfl⟩ := k4 (by omega)
    obtain ⟨g2, o2, rfl⟩ := k5 (by omega)
    have hxy : l[i].2 = m[i].2 := by
      have := congrArg (·[i]?) h
      simpa [h1', h2'] using this
    have hf1 : (l.map Prod.fst)[i]? = some l[i].1 := by rw [List.getElem?_map, List.getElem?_eq_getElem h1']; rfl
    have hf2 : (m.map Prod.fst)[i]? = some m[i].1 := by rw [List.getElem?_map, List.getElem?_eq_getElem h2']; rfl
    have hc1 : ∀ w, Sat b F w → w.cell? ⟨g1, o1 + i, none⟩ = some l[i].1 := fun w H => (sl_cell (ha w H).sl (by rw [List.length_map]; exact h1')).trans hf1
    have hc2 : ∀ w, Sat b F w → w.cell? ⟨g2, o2 + i, none⟩ = some m[i].1 := fun w H => (sl_cell (hb w H).sl (by rw [List.length_map]; exact h2')).trans hf2
    have he1 : ∀ w, Sat b F w → VL (Value.int .i64) w l[i].1 l[i].2 := fun w H => (ha w H).vl _ (List.getElem_mem h1')
    have he2 : ∀ w, Sat b F w → VL (Value.int .i64) w m[i].1 m[i].2 := fun w H => (hb w H).vl _ (List.getElem_mem h2')
    generalize l[i] = x at *
    generalize m[i] = y at *
    (refine sw_skip ?_; refine sn_then ?_; refine sw_seq ?_; refine sw_block ?_)
    refine sw_draw flo F (by decide +kernel) (Ent.refl _) ?_
    ((iterate 2 refine sd_1 rfl (.inl rfl) ?_); refine sd_2 rfl rfl (by omega) ?_)
    refine sd_rd rfl (fun w H => ex_load rfl rfl rfl (by rw [mulz_eq, Int.toNat_natCast, Nat.mul_one]; exact hc1 w H)) rfl rfl ?_
    ((iterate 2 refine sd_1 rfl (.inl rfl) ?_); refine sd_2 rfl rfl (by omega) ?_)
    refine sd_rd rfl (fun w H => ex_load rfl rfl rfl (by rw [mulz_eq, Int.toNat_natCast, Nat.mul_one]; exact hc2 w H)) rfl rfl ?_
    refine sd_callE rfl rfl rfl rfl ((SameInts_S he1 he2)) (Ent.refl _) ?_
    rw [decide_eq_true hxy]
    (refine sd_1 rfl (.inl rfl) ?_)
    refine sd_nil ?_
    (refine sn_block ?_; refine sn_then ?_; refine sw_region ?_; refine so_1 rfl ?_; refine so_2 rfl (by (unfold I64; omega)) ?_; refine so_1 rfl ?_; refine so_nil ?_)
    rw [show (i : Int) + 1 = ((i + 1 : Nat) : Int) by omega]
    exact sn_round (i + 1) ⟨rfl, rfl, rfl, rfl, trivial⟩ (Ent.refl _) h1' (by omega)
  · (refine sw_exit ?_; refine sn_then_exit ?_; refine sn_loop_exit ?_; refine sn_block_exit ?_; refine sn_then ?_; refine sw_seq ?_; refine sw_region ?_; (iterate 2 refine so_1 rfl ?_); refine so_nil ?_; refine sn_then ?_; refine sw_ret ?_)
    refine sn_ret rfl (.tmp rfl .nil) (Ent.refl _) ?_
    exact ⟨rfl, rfl⟩
set_option maxRecDepth 20000 in
set_option maxHeartbeats 4000000 in
theorem CopyRows_S {l : List (Value × List Int)} (hl : ∀ w, Sat b F w → RL w v l) (hn : l.length ≤ 1000000) (hd : ∀ p ∈ l, p.2.length ≤ 1000000) :
    SC Try.prog n_entrepotkit_CopyRows [v] b F (fun u F' => ∃ D, D.map Prod.snd = l.map Prod.snd ∧ F' = rRs u D :: all (vF D) :: F) := by
  refine enterS F_entrepotkit_CopyRows rfl rfl rfl ?_
  refine sw_fact (fun w H => sl_form (hl w H).sl) ?_
  rintro ⟨A0, c0, rfl, _, _, _, k4, _⟩
  (refine sw_seq ?_; refine sw_region ?_; refine so_1 rfl ?_; refine so_nil ?_; refine sn_then ?_; refine sw_seq ?_; refine sw_region ?_; refine so_1 rfl ?_; refine so_nil ?_; refine sn_then ?_; (iterate 2 refine sw_seq ?_); refine sw_region ?_; refine so_1 rfl ?_; refine so_nil ?_; refine sn_then ?_; refine sw_block ?_)
  refine sw_loop (S := Nat × List (Value × List Int) × Nat × Option Addr × Nat) (fun s => [(0, .slice A0 l.length c0), (3, .slice s.2.2.2.1 s.2.2.1 s.2.2.2.2), (4, .int .i64 (s.1 : Int))])
    (fun s => rRn s.2.2.2.1 s.2.2.2.2 s.2.2.1 s.2.1 :: all (vF s.2.1) :: F) (fun s => s.1 ≤ l.length ∧ s.2.1.map Prod.snd = (l.take s.1).map Prod.snd ∧ s.2.1.length = s.2.2.1) (fun s => l.length - s.1) (0, [], 0, none, 0) ⟨rfl, rfl, rfl, trivial⟩ ?_ ⟨Nat.zero_le _, rfl, rfl⟩ ?_
  · exact (ent_close (G := [])).trans (ent_row_nil t_sl_int 1 rfl)
  rintro ⟨i, S, o, A, c⟩ ⟨hi1, hS, ho⟩
  dsimp only at hi1 hS ho ⊢
  have hSl : S.length = i := by have := congrArg List.length hS; rw [List.length_map, List.length_map, List.length_take] at this; omega
  subst ho
  ((iterate 2 refine sw_seq ?_); refine sw_region ?_; (iterate 4 refine so_1 rfl ?_); refine so_nil ?_; refine sn_then ?_)
  refine sw_if rfl (fun h1 => ?_) (fun h1 => ?_)
  · have h1' : i < l.length := by omega
    obtain ⟨gg, oo, rfl⟩ := k4 (by omega)
    have hmem := List.getElem_mem h1'
    have hsn : (l.take (i + 1)).map Prod.snd = (l.take i).map Prod.snd ++ [l[i].2] := by rw [List.take_succ_eq_append_getElem h1', List.map_append]; rfl
    have hf1 : (l.map Prod.fst)[i]? = some l[i].1 := by rw [List.getElem?_map, List.getElem?_eq_getElem h1']; rfl
    have hc1 : ∀ w, Sat b F w → w.cell? ⟨gg, oo + i, none⟩ = some l[i].1 := fun w H => (sl_cell (hl w H).sl (by rw [List.length_map]; exact h1')).trans hf1
    have her : ∀ w, Sat b F w → VL (Value.int .i64) w l[i].1 l[i].2 := fun w H => (hl w H).vl _ hmem
    have hpd := hd _ hmem
    generalize l[i] = x at *
    (refine sw_skip ?_; refine sn_then ?_; refine sw_seq ?_; refine sw_block ?_; refine sw_region ?_; (iterate 3 refine so_1 rfl ?_); refine so_2 rfl (by omega) ?_)
    refine so_rd rfl (fun w H => ex_load rfl rfl rfl (by rw [mulz_eq, Int.toNat_natCast, Nat.mul_one]; exact hc1 w (H.ent (ent_keep 2 [] rfl rfl)))) rfl ?_
    refine so_call rfl rfl rfl (CopyInts_S (up her (ent_keep 2 [] rfl rfl)) (by omega)) ?_
    rintro cv _ rfl
    refine so_fact (fun w H => (H.oat (k := 0) rfl).form) ?_
    rintro ⟨A2, c2, rfl, _, _, _⟩
    refine so_lit1 rfl rfl rfl rfl rfl rfl rfl rfl (by decide) fun gl => ?_
    refine so_append 2 rfl rfl rfl rfl rfl rfl rfl rfl rfl (m := 1) (news := [.slice A2 x.2.length c2]) (fun w H => (H.blk (k := 0) rfl).sl rfl (by decide)) (by simp [Value.oneCell']) (by omega) (fun _ => rfl) fun v' => ?_
    refine so_fact (fun w H => (H.oat (k := 2) rfl).form) ?_
    rintro ⟨A', c', rfl, _, _, _⟩
    (refine so_1 rfl ?_; refine so_nil ?_; refine sn_block ?_; refine sn_then ?_; refine sw_region ?_; refine so_1 rfl ?_; refine so_2 rfl (by (unfold I64; omega)) ?_; refine so_1 rfl ?_; refine so_nil ?_)
    rw [show (i : Int) + 1 = ((i + 1 : Nat) : Int) by omega]
    refine sn_ent (G := [rZ (.slice A2 x.2.length c2) x.2] ++ all (vF S) :: rRn A' c' (S.length + 1) (S ++ [(.slice A2 x.2.length c2, x.2)]) :: F) (by
      simp only [rRn, List.map_append, List.map_cons, List.map_nil]
      exact ent_keep 4 [1, 3, 2] rfl rfl) ?_
    refine sn_ent (ent_in (A := vF (S ++ [(.slice A2 x.2.length c2, x.2)])) vF_snoc) ?_
    refine sn_round (i + 1, _, S.length + 1, A', c') ⟨rfl, rfl, rfl, trivial⟩ (ent_keep 2 [1, 0] rfl rfl) ⟨h1', ?_, by simp⟩ (by dsimp only; omega)
    dsimp only
    rw [List.map_append, hS, hsn]; rfl
  · obtain rfl : i = l.length := by omega
    rw [List.take_length] at hS
    (refine sw_exit ?_; refine sn_then_exit ?_; refine sn_loop_exit ?_; refine sn_block_exit ?_; refine sn_then ?_; refine sw_seq ?_; refine sw_region ?_; (iterate 2 refine so_1 rfl ?_); refine so_nil ?_; refine sn_then ?_; refine sw_ret ?_)
    refine sn_ret rfl (.tmp rfl .nil) (Ent.refl _) ?_
    exact ⟨S, hS, rfl⟩
set_option maxRecDepth 20000 in
set_option maxHeartbeats 4000000 in
theorem OverRows_D {l : List (Value × List Int)} (hd : ∀ p ∈ l, p.2.length ≤ 1000000) : SC Try.prog n_entrepotkit_OverRows [v] b (rRs v l :: all (vF l) :: F) (fun _ F' => F' = F) := by
  refine enterS F_entrepotkit_OverRows rfl rfl rfl ?_
  refine sw_fact (fun w H => (H.oat (k := 0) rfl).form) ?_
  rintro ⟨A, c, rfl, k1, k2, k3⟩
  (refine sw_seq ?_; refine sw_region ?_; refine so_1 rfl ?_; refine so_nil ?_; refine sn_then ?_; refine sw_block ?_)
  refine sw_loop (S := Nat) (fun i => [(0, .slice A l.length c), (2, .int .i64 (i : Int))]) (fun i => rRn A c l.length l :: all (vF (l.drop i)) :: F) (fun i => i ≤ l.length) (fun i => l.length - i) 0 ⟨rfl, rfl, trivial⟩ (Ent.refl _) (Nat.zero_le _) ?_
  intro i hi
  ((iterate 2 refine sw_seq ?_); refine sw_region ?_; (iterate 4 refine so_1 rfl ?_); refine so_nil ?_; refine sn_then ?_)
  refine sw_if rfl (fun h1 => ?_) (fun h1 => ?_)
  · have h1' : i < l.length := by omega
    obtain ⟨gA, oA, rfl⟩ := k3 (by omega)
    have hmem := List.getElem_mem h1'
    have hf1 : (l.map Prod.fst)[i]? = some l[i].1 := by rw [List.getElem?_map, List.getElem?_eq_getElem h1']; rfl
    have hdr : l.drop i = l[i] :: l.drop (i + 1) := List.drop_eq_getElem_cons h1'
    have hpd := hd _ hmem
    generalize l[i] = x at *
    rw [hdr]
    (refine sw_skip ?_; refine sn_then ?_; refine sw_seq ?_; refine sw_block ?_; refine sw_region ?_; (iterate 2 refine so_1 rfl ?_); refine so_2 rfl (by omega) ?_)
    refine so_rd rfl (fun w H => ex_load rfl rfl rfl (by rw [mulz_eq, Int.toNat_natCast, Nat.mul_one]; exact row_cell (k := 0) rfl hf1 w H)) rfl ?_
    refine so_ent (G := rZ x.1 x.2 :: all (vF (l.drop (i + 1))) :: rRn (some ⟨gA, oA, none⟩) c l.length l :: F) ((ent_keep 2 [1, 0] rfl rfl).trans (ent_out (A := vF (x :: l.drop (i + 1))) (B := [rZ x.1 x.2]) (C := vF (l.drop (i + 1))) (.refl _))) ?_
    refine so_call rfl rfl rfl (OverInts_D hpd) ?_
    rintro _ _ rfl
    (refine so_nil ?_; refine sn_block ?_; refine sn_then ?_; refine sw_region ?_; refine so_1 rfl ?_; refine so_2 rfl (by (unfold I64; omega)) ?_; refine so_1 rfl ?_; refine so_nil ?_)
    rw [show (i : Int) + 1 = ((i + 1 : Nat) : Int) by omega]
    exact sn_round (i + 1) ⟨rfl, rfl, trivial⟩ (ent_keep 2 [1, 0] rfl rfl) h1' (by omega)
  · (refine sw_exit ?_; refine sn_then_exit ?_; refine sn_loop_exit ?_; refine sn_block_exit ?_)
    refine sn_end rfl .nil (ent_keep 2 [] rfl rfl) ?_
    rfl
set_option maxRecDepth 20000 in
set_option maxHeartbeats 4000000 in
theorem LongRows_S {l : List (Value × List Int)} (hl : ∀ w, Sat b F w → RL w v l) : SC Try.prog n_entrepotkit_LongRows [v] b F (fun v F' => ∃ q : Bool, (q = false → l.length ≤ 20 ∧ ∀ p ∈ l, p.2.length ≤ 20) ∧ v = .bool q ∧ F' = F) := by
  refine enterS F_entrepotkit_LongRows rfl rfl rfl ?_
  refine sw_fact (fun w H => sl_form (hl w H).sl) ?_
  rintro ⟨A, c, rfl, _, _, _, k4, _⟩
  (refine sw_seq ?_; refine sw_region ?_; refine so_1 rfl ?_; refine so_nil ?_; refine sn_then ?_; (iterate 2 refine sw_seq ?_); refine sw_region ?_; refine so_1 rfl ?_; refine so_nil ?_; refine sn_then ?_; refine sw_block ?_)
  refine sw_loop (S := Nat) (fun i => [(0, .slice A l.length c), (3, .int .i64 (i : Int))]) (fun _ => F) (fun i => i ≤ l.length ∧ i ≤ 21 ∧ ∀ p ∈ l.take i, p.2.length ≤ 20) (fun i => l.length - i) 0 ⟨rfl, rfl, trivial⟩ (Ent.refl _) ⟨Nat.zero_le _, by omega, fun p hp => by simp at hp⟩ ?_
  rintro i ⟨i1, i2, i3⟩
  ((iterate 2 refine sw_seq ?_); refine sw_region ?_; (iterate 5 refine so_1 rfl ?_))
  by_cases h1 : (i : Int) < l.length
  · have h1' : i < l.length := by omega
    refine so_know 8 (.bool true) rfl (congrArg Value.bool (decide_eq_true h1)) ?_
    ((iterate 3 refine so_1 rfl ?_); refine so_nil ?_; refine sn_then ?_)
    refine sw_if rfl (fun h2 => ?_) (fun h2 => ?_)
    · obtain ⟨gg, oo, rfl⟩ := k4 (by omega)
      have hmem := List.getElem_mem h1'
      have hf1 : (l.map Prod.fst)[i]? = some l[i].1 := by rw [List.getElem?_map, List.getElem?_eq_getElem h1']; rfl
      have hc1 : ∀ w, Sat b F w → w.cell? ⟨gg, oo + i, none⟩ = some l[i].1 := fun w H => (sl_cell (hl w H).sl (by rw [List.length_map]; exact h1')).trans hf1
      have her : ∀ w, Sat b F w → VL (Value.int .i64) w l[i].1 l[i].2 := fun w H => (hl w H).vl _ hmem
      have hsn : l.take (i + 1) = l.take i ++ [l[i]] := List.take_succ_eq_append_getElem h1'
      generalize l[i] = x at *
      (refine sw_skip ?_; refine sn_then ?_; refine sw_seq ?_; refine sw_block ?_; refine sw_seq ?_; refine sw_region ?_; (iterate 2 refine so_1 rfl ?_); refine so_2 rfl (by omega) ?_)
      refine so_rd rfl (fun w H => ex_load rfl rfl rfl (by rw [mulz_eq, Int.toNat_natCast, Nat.mul_one]; exact hc1 w H)) rfl ?_
      refine so_fact (fun w H => (her w H).form) ?_
      rintro ⟨Ap, cp, hp1, _, _, _, _⟩
      rw [hp1]
      ((iterate 2 refine so_1 rfl ?_); refine so_nil ?_; refine sn_then ?_)
      refine sw_if rfl (fun h3 => ?_) (fun h3 => ?_)
      · (refine sw_seq ?_; refine sw_region ?_; refine so_1 rfl ?_; refine so_nil ?_; refine sn_then ?_; refine sw_ret ?_; refine sn_block_ret ?_; refine sn_then_ret ?_; refine sn_loop_ret ?_; refine sn_block_ret ?_; refine sn_then_ret ?_)
        refine sn_ret rfl (.tmp rfl .nil) (Ent.refl _) ?_
        exact ⟨true, (fun h => by cases h), rfl, rfl⟩
      · (refine sw_skip ?_; refine sn_block ?_; refine sn_then ?_; refine sw_region ?_; refine so_1 rfl ?_; refine so_2 rfl (by (unfold I64; omega)) ?_; refine so_1 rfl ?_; refine so_nil ?_)
        rw [show (i : Int) + 1 = ((i + 1 : Nat) : Int) by omega]
        refine sn_round (i + 1) ⟨rfl, rfl, trivial⟩ (Ent.refl _) ⟨h1', by omega, fun p hp => ?_⟩ (by omega)
        rw [hsn] at hp
        rcases List.mem_append.1 hp with hp | hp
        · exact i3 p hp
        · rw [List.mem_singleton.1 hp]; omega
    · (refine sw_exit ?_; refine sn_then_exit ?_; refine sn_loop_exit ?_; refine sn_block_exit ?_; refine sn_then ?_; refine sw_seq ?_; refine sw_region ?_; (iterate 4 refine so_1 rfl ?_); refine so_nil ?_; refine sn_then ?_; refine sw_ret ?_)
      refine sn_ret rfl (.tmp rfl .nil) (Ent.refl _) ?_
      exact ⟨_, (fun h => absurd (of_decide_eq_false h) (by omega)), rfl, rfl⟩
  · obtain rfl : i = l.length := by omega
    refine so_know 8 (.bool false) rfl (congrArg Value.bool (decide_eq_false h1)) ?_
    rw [List.take_length] at i3
    ((iterate 3 refine so_1 rfl ?_); refine so_nil ?_; refine sn_then ?_; refine sw_cond_f rfl ?_; refine sw_exit ?_; refine sn_then_exit ?_; refine sn_loop_exit ?_; refine sn_block_exit ?_; refine sn_then ?_; refine sw_seq ?_; refine sw_region ?_; (iterate 4 refine so_1 rfl ?_); refine so_nil ?_; refine sn_then ?_; refine sw_ret ?_)
    refine sn_ret rfl (.tmp rfl .nil) (Ent.refl _) ?_
    exact ⟨_, (fun h => ⟨by have := of_decide_eq_false h; omega, i3⟩), rfl, rfl⟩
end
end Go.Proofs.Ytajbpdmhpcpkgaa
/- Who has what, part twenty-one: both matrices hold the same; calls; long. Conditions: none. -/
namespace Go.Proofs.Ytajbpdmhpcpkgaa
open Go Go.Eng Go.RowKit Go.WideMaps

structure EvG (e : Ev) : Prop where
  m : EvM e
  r32 : len32 e.refs
  dk : dotOk (dotE e)
theorem EvG.nE {e f : Ev} (h : EvG e) (hf : nE f = nE e) : EvG f := by
  obtain ⟨dv, rv, rfl⟩ := nE_eq hf.symm
  exact ⟨h.m.nE hf, h.r32, h.dk⟩
theorem EvG.o {e : Ev} (h : EvG e) : e.id.length = 32 ∧ len32 e.refs ∧ e.refs.length ≤ 1000000 := ⟨h.m.l32, h.r32, h.m.rn⟩
theorem EvG.p {e : Ev} (h : EvG e) : e.id.length = 32 ∧ len32 e.refs := ⟨h.m.l32, h.r32⟩
theorem EvG.q {e : Ev} (h : EvG e) : e.deps.length ≤ 1000000 ∧ e.refs.length ≤ 1000000 := ⟨h.m.dn, h.m.rn⟩
theorem evG_sub {l D : List Ev} (h : ∀ e ∈ l, EvG e) (hD : ∀ y ∈ D.map nE, y ∈ l.map nE) : ∀ e ∈ D, EvG e := fun e he => by
  obtain ⟨f, hf, hfe⟩ := List.mem_map.1 (hD _ (List.mem_map.2 ⟨e, he, rfl⟩))
  exact (h f hf).nE hfe.symm
theorem evG_map {l D : List Ev} (h : ∀ e ∈ l, EvG e) (hD : D.map nE = l.map nE) : ∀ e ∈ D, EvG e := evG_sub h fun y hy => by rw [hD] at hy; exact hy
theorem dots_nE (L : List Ev) : (L.map nE).map dotE = L.map dotE := by rw [List.map_map]; rfl
theorem evLt_tri {x y : Ev} (h : evLt y x = false) (hd : dotE x ≠ dotE y) : evLt x y = true := by
  unfold evLt lessL at *
  have a := of_decide_eq_false h
  have c : ¬ (x.r = y.r ∧ x.n = y.n) := fun q => hd (Prod.ext q.1 q.2)
  exact decide_eq_true (by omega)
theorem lt_of_sort {l S : List Ev} (h : IsSort l S) (hd : (l.map dotE).Nodup) : S.Pairwise fun x y => evLt x y = true := by
  have h1 : (S.map dotE).Nodup := (h.perm.map dotE).nodup_iff.2 hd
  rw [List.Nodup, List.pairwise_map] at h1
  exact (h.asc.and h1).imp fun {x y} q => evLt_tri q.1 q.2
/-- Both matrices hold the same. -/
structure StI (R : List (List Int)) (K L : List Ev) : Prop where
  ok : RowsOk R
  g : ∀ e ∈ K, EvG e
  nd : (K.map dotE).Nodup
  srt : (L.map nE).Pairwise fun x y => evLt x y = true
  prm : (L.map nE).Perm (K.map nE)
section
variable {R : List (List Int)} {K L : List Ev}
theorem StI.len (h : StI R K L) : L.length = K.length := by have := h.prm.length_eq; simpa using this
theorem StI.gL (h : StI R K L) : ∀ e ∈ L, EvG e := evG_sub h.g fun y hy => h.prm.mem_iff.1 hy
theorem StI.ndL (h : StI R K L) : (L.map dotE).Nodup := by
  have := (h.prm.map dotE).nodup_iff
  rw [dots_nE, dots_nE] at this
  exact this.2 h.nd
theorem StI.mK (h : StI R K L) : ∀ e ∈ K, EvM e := fun e he => (h.g e he).m
theorem StI.mL (h : StI R K L) : ∀ e ∈ L, EvM e := fun e he => (h.gL e he).m
theorem StI.dk (h : StI R K L) : ∀ e ∈ K, dotOk (dotE e) := fun e he => (h.g e he).dk
theorem findE_map (K : List Ev) (d : Int × Int) : findE (K.map nE) d = (findE K d).map nE := by
  induction K with
  | nil => rfl
  | cons e K ih =>
    simp only [findE, List.map_cons, List.find?_cons] at *
    by_cases h : dotE e = d
    · have h2 : dotE (nE e) = d := h
      rw [decide_eq_true h, decide_eq_true h2]; rfl
    · have h2 : ¬ dotE (nE e) = d := h
      rw [decide_eq_false h, decide_eq_false h2]; exact ih
theorem findE_mem {e : Ev} : ∀ {K : List Ev}, (K.map dotE).Nodup → e ∈ K → findE K (dotE e) = some e
  | [], _, he => by cases he
  | f :: K, hn, he => by
    rw [List.map_cons, List.nodup_cons] at hn
    simp only [findE, List.find?_cons]
    rcases List.mem_cons.1 he with rfl | he
    · rw [decide_eq_true rfl]
    · have hd : ¬ dotE f = dotE e := fun q => hn.1 (by rw [q]; exact List.mem_map_of_mem he)
      rw [decide_eq_false hd]
      exact findE_mem hn.2 he
theorem findE_perm {K L : List Ev} (hp : L.Perm K) (hn : (K.map dotE).Nodup) (d : Int × Int) : findE L d = findE K d := by
  have hnL : (L.map dotE).Nodup := (hp.map dotE).nodup_iff.2 hn
  cases hf : findE L d with
  | none =>
    cases hg : findE K d with
    | none => rfl
    | some e =>
      obtain ⟨h1, h2⟩ := findE_some hg
      exact absurd h2 (findE_none hf e (hp.mem_iff.2 h1))
  | some e =>
    obtain ⟨h1, rfl⟩ := findE_some hf
    rw [findE_mem hn (hp.mem_iff.1 h1)]
theorem StI.find (h : StI R K L) (d : Int × Int) : (findE L d).map nE = (findE K d).map nE := by
  rw [← findE_map, ← findE_map]
  exact findE_perm h.prm (by rw [dots_nE]; exact h.nd) d
theorem StI.is (h : StI R K L) (d : Int × Int) : (findE L d).isSome = (findE K d).isSome := by
  have := congrArg Option.isSome (h.find d)
  rwa [Option.isSome_map, Option.isSome_map] at this
theorem StI.lk (h : StI R K L) (d : Int × Int) : nE (lkE L d) = nE (lkE K d) := by
  have := h.find d
  unfold lkE
  cases h1 : findE L d with
  | none =>
    cases h2 : findE K d with
    | none => rfl
    | some f => simp [h1, h2] at this
  | some e =>
    cases h2 : findE K d with
    | none => simp [h1, h2] at this
    | some f =>
      rw [h1, h2] at this
      exact Option.some.inj this
theorem StI.keep (h : StI R K L) (own : Int) (e : Ev) : keepB own R L e = keepB own R K e := by
  unfold keepB
  rw [h.is]
theorem keepB_new {own : Int} {e : Ev} (h : (keepB own R K e).2 = true) : findE K (dotE e) = none := by
  unfold keepB at h
  split at h
  · cases h
  split at h
  · cases h
  split at h
  · cases h
  · rename_i _ _ h3
    cases hf : findE K (dotE e) with
    | none => rfl
    | some f => rw [hf] at h3; simp at h3
theorem nd_snoc {K : List Ev} {y e : Ev} (hn : (K.map dotE).Nodup) (hy : nE y = nE e) (hf : findE K (dotE e) = none) : ((K ++ [y]).map dotE).Nodup := by
  have hd : dotE y = dotE e := show dotE (nE y) = dotE (nE e) by rw [hy]
  rw [List.map_append, List.nodup_append]
  refine ⟨hn, by simp, fun a ha c hc => ?_⟩
  obtain ⟨f, hf1, rfl⟩ := List.mem_map.1 ha
  rw [List.map_singleton, List.mem_singleton] at hc
  subst hc
  rw [hd]
  exact findE_none hf f hf1
theorem StI.kept (h : StI R K L) {e y : Ev} {D : List Ev} (he : EvG e) (hf : findE K (dotE e) = none) (hy : nE y = nE e) (hD : IsSort (L.map nE ++ [nE e]) (D.map nE)) : StI R (K ++ [y]) D := by
  have hn := nd_snoc h.nd hy hf
  have hp : (L.map nE ++ [nE e]).Perm ((K ++ [y]).map nE) := by
    rw [List.map_append, List.map_singleton, hy]
    exact h.prm.append_right _
  refine ⟨h.ok, fun f hf => ?_, hn, lt_of_sort hD ?_, hD.perm.trans hp⟩
  · rcases List.mem_append.1 hf with hf | hf
    · exact h.g f hf
    · rw [List.mem_singleton.1 hf]; exact he.nE hy
  · rw [(hp.map dotE).nodup_iff, dots_nE]; exact hn
theorem flt_nE (p : Ev → Bool) (hp : ∀ e, p (nE e) = p e) (L : List Ev) : (L.filter p).map nE = (L.map nE).filter p := by
  rw [List.filter_map]
  congr 1
  exact List.filter_congr fun e _ => (hp e).symm
theorem StI.rest (h : StI R K L) {p : Ev → Bool} (hp : ∀ e, p (nE e) = p e) {K' : List Ev} (hK : K'.map nE = (L.map nE).filter p) : StI R K' (L.filter p) := by
  have h1 : (L.filter p).map nE = K'.map nE := by rw [hK]; exact flt_nE p hp L
  have hs : (K'.map nE).Sublist (L.map nE) := by rw [hK]; exact List.filter_sublist
  refine ⟨h.ok, evG_sub h.gL fun y hy => hs.mem hy, ?_, ?_, by rw [h1]⟩
  · rw [← dots_nE]
    have := h.ndL
    rw [← dots_nE] at this
    exact this.sublist (hs.map dotE)
  · rw [h1]; exact h.srt.sublist hs
theorem StI.rows (h : StI R K L) {R' : List (List Int)} (hR : RowsOk R') : StI R' K L := ⟨hR, h.g, h.nd, h.srt, h.prm⟩
theorem StI.none (hR : RowsOk R) : StI R [] [] := ⟨hR, (fun e he => by cases he), List.nodup_nil, List.Pairwise.nil, .refl _⟩
theorem ldErr_nd {r0 : List Int} : ∀ (l seen : List Ev), ldErr R r0 seen l = 0 → (seen.map dotE).Nodup → ((seen ++ l).map dotE).Nodup
  | [], seen, _, h => by rwa [List.append_nil]
  | x :: l, seen, he, h => by
    rw [ldErr] at he
    split at he
    · rename_i h0
      have hf : findE seen (dotE x) = none := by
        cases hf : findE seen (dotE x) with
        | none => rfl
        | some f =>
          unfold evErr at h0
          rw [hf] at h0
          split at h0
          · cases h0
          split at h0
          · cases h0
          · cases h0
      have := ldErr_nd l (seen ++ [x]) he (nd_snoc h rfl hf)
      rwa [List.append_assoc] at this
    · contradiction
theorem loadErr_ok {own : Int} {l : List Ev} (h : loadErr own R l = 0) : newB R.length own = true ∧ RowsOk R ∧ (l.map dotE).Nodup := by
  unfold loadErr at h
  split at h
  · cases h
  rename_i h1
  split at h
  · cases h
  rename_i h2
  have h1' : newB R.length own = true := by simpa using h1
  have h2' : R.all (numB R.length) = true := by simpa using h2
  obtain ⟨a1, a2, _, _⟩ := newB_iff.1 h1'
  exact ⟨h1', rowsOk_of a1 a2 h2', by simpa using ldErr_nd l [] h List.nodup_nil⟩
theorem StI.load {own : Int} {l K D : List Ev} (h : loadErr own R l = 0) (hg : ∀ e ∈ l, EvG e) (hK : K.map nE = l.map nE) (hD : IsSort (l.map nE) (D.map nE)) : StI R K D := by
  obtain ⟨_, h2, h3⟩ := loadErr_ok h
  refine ⟨h2, evG_map hg hK, ?_, lt_of_sort hD (by rw [dots_nE]; exact h3), by rw [hK]; exact hD.perm⟩
  rw [← dots_nE, hK, dots_nE]; exact h3
end
/-- A call. -/
structure Ac where
  k : Int
  r : Int
  m : Int
  v : Value
  xs : List Int
  e : Ev
def acC (a : Ac) : List Value := .int .i64 a.k :: .int .i64 a.r :: .int .i64 a.m :: a.v :: evC a.e
theorem acC_len {a : Ac} (h : a.e.id.length = 32) : (acC a).length = 43 := by
  show (evC a.e).length + 4 = 43
  rw [evC_len h]
theorem acC_ev {a : Ac} {j : Nat} : (acC a)[4 + j]? = (evC a.e)[j]? := by
  rw [Nat.add_comm]; rfl
structure LAs (W : World) (v : Value) (l : List Ac) : Prop where
  sl : SL W 43 v l.length (flC acC l)
  vl : ∀ a ∈ l, VL (Value.int .i64) W a.v a.xs
  er : ∀ a ∈ l, ER W a.e
theorem LAs.ext {w w' : World} {v : Value} {l : List Ac} (h : LAs w v l) (x : Ext w w') : LAs w' v l := ⟨h.sl.ext x, fun m hm => (h.vl m hm).ext x, fun m hm => (h.er m hm).ext x⟩
def AcOk (a : Ac) : Prop := a.xs.length ≤ 20 ∧ LE a.e
section
variable {b : World} {F : List SP} {va : Value} {L : List Ac}
theorem ac_cell {w : World} {bk off c i j : Nat} (h : LAs w (.slice (some ⟨bk, off, none⟩) L.length c) L) (h32 : ∀ a ∈ L, a.e.id.length = 32) (hi : i < L.length) (hj : j < 43) : w.cell? ⟨bk, off + i * 43 + j, none⟩ = (acC L[i])[j]? := fl_cell h.sl (fun a ha => acC_len (h32 a ha)) hi hj
set_option maxRecDepth 20000 in
set_option maxHeartbeats 2000000 in
theorem long_S (hl : ∀ w, Sat b F w → LAs w va L) (h32 : ∀ a ∈ L, a.e.id.length = 32) : SC Try.prog n_entrepotlaw24_long [va] b F
    (fun v F' => ∃ r : Bool, (r = false → L.length ≤ 30 ∧ ∀ a ∈ L, AcOk a) ∧ v = .bool r ∧ F' = F) := by
  refine enterS F_entrepotlaw24_long rfl rfl rfl ?_
  refine sw_fact (fun w H => sl_form (hl w H).sl) ?_
  rintro ⟨A0, c0, rfl, q1, q2, q3, q4, _⟩
  (refine sw_seq ?_; refine sw_region ?_; refine so_1 rfl ?_; refine so_nil ?_; refine sn_then ?_; (iterate 2 refine sw_seq ?_); refine sw_region ?_; refine so_1 rfl ?_; refine so_nil ?_; refine sn_then ?_; refine sw_block ?_)
  refine sw_loop (S := Nat) (fun i => [(0, .slice A0 L.length c0), (3, .int .i64 (i : Int))]) (fun _ => F) (fun i => i ≤ L.length ∧ i ≤ 31 ∧ ∀ a ∈ L.take i, AcOk a) (fun i => L.length - i) 0
    ⟨rfl, rfl, trivial⟩ (Ent.refl _) ⟨Nat.zero_le _, Nat.zero_le _, by simp⟩ ?_
  rintro i ⟨hi, hi31, hP⟩
  ((iterate 2 refine sw_seq ?_); refine sw_region ?_; (iterate 5 refine so_1 rfl ?_))
  have fin : ∀ r : Bool, (r = false → L.length ≤ 30 ∧ ∀ a ∈ L, AcOk a) → ∃ r' : Bool, (r' = false → L.length ≤ 30 ∧ ∀ a ∈ L, AcOk a) ∧ Value.bool r = .bool r' ∧ F = F := fun r h => ⟨r, h, rfl, rfl⟩
  by_cases h1 : (i : Int) < L.length
  · have h1' : i < L.length := by omega
    refine so_know 8 (.bool true) rfl (congrArg Value.bool (decide_eq_true h1)) ?_
    ((iterate 3 refine so_1 rfl ?_); refine so_nil ?_; refine sn_then ?_)
    refine sw_if rfl (fun h2 => ?_) (fun h2 => ?_)
    · obtain ⟨gg, oo, rfl⟩ := q4 (by omega)
      have hmem := List.getElem_mem h1'
      have hc : ∀ w, Sat b F w → ∀ j, j < 43 → w.cell? ⟨gg, oo + i * 43 + j, none⟩ = (acC L[i])[j]? := fun w H j hj => ac_cell (hl w H) h32 h1' hj
      have hvl : ∀ w, Sat b F w → VL (Value.int .i64) w L[i].v L[i].xs := fun w H => (hl w H).vl _ hmem
      have her : ∀ w, Sat b F w → ER w L[i].e := fun w H => (hl w H).er _ hmem
      have hx32 := h32 _ hmem
      have htk : L.take (i + 1) = L.take i ++ [L[i]] := List.take_succ_eq_append_getElem h1'
      generalize L[i] = a at *
      have xl := evC_len hx32
      (refine sw_skip ?_; refine sn_then ?_; refine sw_seq ?_; refine sw_block ?_; refine sw_seq ?_; refine sw_region ?_; (iterate 2 refine so_1 rfl ?_); refine so_2 rfl (by omega) ?_; refine so_1 rfl ?_)
      refine so_rd rfl (fun w H => ex_load rfl rfl rfl (by rw [mulz_eq, Int.toNat_natCast]; exact hc w H 3 (by decide))) rfl ?_
      refine so_fact (fun w H => (hvl w H).form) ?_
      rintro ⟨A7, c7, hv, _, _, _, _⟩
      rw [hv]
      ((iterate 3 refine so_1 rfl ?_))
      by_cases h3 : (20 : Int) < a.xs.length
      · refine so_know 21 (.bool true) rfl (congrArg Value.bool (decide_eq_true h3)) ?_
        ((iterate 17 refine so_1 rfl ?_); refine so_nil ?_; refine sn_then ?_; refine sw_cond_t rfl ?_; refine sw_seq ?_; refine sw_region ?_; refine so_1 rfl ?_; refine so_nil ?_; refine sn_then ?_; refine sw_ret ?_; refine sn_block_ret ?_; refine sn_then_ret ?_; refine sn_loop_ret ?_; refine sn_block_ret ?_; refine sn_then_ret ?_)
        refine sn_ret rfl (.tmp rfl .nil) (Ent.refl _) ?_
        exact fin true (fun h => by cases h)
      refine so_know 21 (.bool false) rfl (congrArg Value.bool (decide_eq_false h3)) ?_
      ((iterate 2 refine so_1 rfl ?_); refine so_2 rfl (by omega) ?_; refine so_1 rfl ?_)
      refine so_rd rfl (fun w H => ex_loadN (cs := evC a.e) rfl rfl rfl xl (fun j hj => by rw [mulz_eq, Int.toNat_natCast, Nat.add_assoc, Nat.add_assoc]; rw [xl] at hj; exact (by have := hc w H (4 + j) (by omega); rw [Nat.add_assoc] at this; exact this.trans acC_ev))) rfl ?_
      refine so_call rfl rfl rfl (LongEvent_S hx32 her) ?_
      rintro _ _ ⟨q, hq, rfl, rfl⟩
      cases q with
      | true =>
        ((iterate 11 refine so_1 rfl ?_); refine so_nil ?_; refine sn_then ?_; refine sw_cond_t rfl ?_; refine sw_seq ?_; refine sw_region ?_; refine so_1 rfl ?_; refine so_nil ?_; refine sn_then ?_; refine sw_ret ?_; refine sn_block_ret ?_; refine sn_then_ret ?_; refine sn_loop_ret ?_; refine sn_block_ret ?_; refine sn_then_ret ?_)
        refine sn_ret rfl (.tmp rfl .nil) (Ent.refl _) ?_
        exact fin true (fun h => by cases h)
      | false =>
      have hle : LE a.e := hq rfl
      ((iterate 4 refine so_1 rfl ?_); refine so_2 rfl (by omega) ?_; (iterate 2 refine so_1 rfl ?_))
      refine so_rd rfl (fun w H => ex_load rfl rfl rfl (by rw [mulz_eq, Int.toNat_natCast, Nat.add_assoc, Nat.add_assoc]; exact (by have := hc w H (4 + 38) (by omega); rw [Nat.add_assoc] at this; exact this.trans (acC_ev.trans (by rw [← nth_eq]; exact evC_rv hx32))))) rfl ?_
      refine so_fact (fun w H => sl_form (her w H).rv) ?_
      rintro ⟨A8, c8, hv8, _, _, _, _, _⟩
      rw [hv8]
      ((iterate 3 refine so_1 rfl ?_); refine so_nil ?_; refine sn_then ?_)
      refine sw_if rfl (fun h4 => ?_) (fun h4 => ?_)
      · (refine sw_seq ?_; refine sw_region ?_; refine so_1 rfl ?_; refine so_nil ?_; refine sn_then ?_; refine sw_ret ?_; refine sn_block_ret ?_; refine sn_then_ret ?_; refine sn_loop_ret ?_; refine sn_block_ret ?_; refine sn_then_ret ?_)
        refine sn_ret rfl (.tmp rfl .nil) (Ent.refl _) ?_
        exact fin true (fun h => by cases h)
      (refine sw_skip ?_; refine sn_block ?_; refine sn_then ?_; refine sw_region ?_; refine so_1 rfl ?_; refine so_2 rfl (by (unfold I64; omega)) ?_; refine so_1 rfl ?_; refine so_nil ?_)
      rw [show (i : Int) + 1 = ((i + 1 : Nat) : Int) by omega]
      refine sn_round (i + 1) ⟨rfl, rfl, trivial⟩ (Ent.refl _) ⟨h1', by omega, fun z hz => ?_⟩ (by omega)
      rw [htk] at hz
      rcases List.mem_append.1 hz with hz | hz
      · exact hP z hz
      · rw [List.mem_singleton.1 hz]; exact ⟨by omega, hle⟩
    · (refine sw_exit ?_; refine sn_then_exit ?_; refine sn_loop_exit ?_; refine sn_block_exit ?_; refine sn_then ?_; refine sw_seq ?_; refine sw_region ?_; (iterate 4 refine so_1 rfl ?_); refine so_nil ?_; refine sn_then ?_; refine sw_ret ?_)
      refine sn_ret rfl (.tmp rfl .nil) (Ent.refl _) ?_
      exact fin _ (fun h => absurd (of_decide_eq_false h) (by omega))
  · obtain rfl : i = L.length := by omega
    refine so_know 8 (.bool false) rfl (congrArg Value.bool (decide_eq_false h1)) ?_
    rw [List.take_length] at hP
    ((iterate 3 refine so_1 rfl ?_); refine so_nil ?_; refine sn_then ?_; refine sw_cond_f rfl ?_; refine sw_exit ?_; refine sn_then_exit ?_; refine sn_loop_exit ?_; refine sn_block_exit ?_; refine sn_then ?_; refine sw_seq ?_; refine sw_region ?_; (iterate 4 refine so_1 rfl ?_); refine so_nil ?_; refine sn_then ?_; refine sw_ret ?_)
    refine sn_ret rfl (.tmp rfl .nil) (Ent.refl _) ?_
    exact fin _ (fun h => ⟨by have := of_decide_eq_false h; omega, hP⟩)
end
end Go.Proofs.Ytajbpdmhpcpkgaa
/- Who has what, part twenty-two: both matrices answer the same to all calls. Conditions: not too many. -/
namespace Go.Proofs.Ytajbpdmhpcpkgaa
open Go Go.Eng Go.RowKit Go.WideMaps

theorem acC_seg {a : Ac} (h : a.e.id.length = 32) : segO (acC a) 4 39 = some (evC a.e) := (show segO (acC a) 4 39 = segO (evC a.e) 0 39 from rfl).trans (segO_all (by rw [evC_len h]))
theorem acC_one {a : Ac} (hv : a.v.oneCell' = true) (hd : a.e.dv.oneCell' = true) (hr : a.e.rv.oneCell' = true) : ∀ u ∈ acC a, u.oneCell' = true := fun u hu => by
  simp only [acC, List.mem_cons] at hu
  rcases hu with rfl | rfl | rfl | rfl | hu
  · rfl
  · rfl
  · rfl
  · exact hv
  · exact evC_one hd hr u hu
/-- What both hold. -/
structure Sx where
  K : List Ev
  L : List Ev
  LR : List (Value × List Int)
  Al : Option Addr
  cl : Nat
structure SxOk (n c : Nat) (s : Sx) : Prop where
  i : StI (s.LR.map Prod.snd) s.K s.L
  n : s.LR.length = n
  c : s.K.length ≤ c
/-- Both matrices in memory. -/
abbrev stT (g gr gm h : Nat) (own : Int) (Ar : Option Addr) (cr n : Nat) (s : Sx) (F : List SP) : List SP := stM g gr gm own (s.LR.map Prod.snd) s.K (stQ h own Ar cr n s.LR s.Al s.cl s.L.length s.L F)
theorem vF_rln {b : World} {F : List SP} {L : List (Value × List Int)} {n c j k : Nat} {A : Option Addr} (hn : L.length = n) (hj : nth F j = some (rRn A c n L)) (hk : nth F k = some (all (vF L))) : ∀ w, Sat b F w → RL w (.slice A n c) L := by
  subst hn
  exact vF_rl hj hk
theorem AcOk.g {a : Ac} (h : AcOk a) (hw : EW a.e) : EvG a.e := ⟨⟨hw.l32, by have := h.2.1; omega, by have := h.2.2.1; omega⟩, hw.r32, hw.dot⟩
theorem seenT_len (R : List (List Int)) (r : Int) (v : List Int) : (seenT R r v).2.length = R.length := by
  unfold seenT
  split
  · rfl
  split
  · rfl
  · exact List.length_set
theorem giveT_sub (R : List (List Int)) (S : List Ev) (r : Int) (ask : List Int) (most : Int) : List.Sublist (giveT R S r ask most).1 S := by
  unfold giveT
  split
  · exact List.nil_sublist _
  split
  · exact List.nil_sublist _
  · exact (List.take_sublist _ _).trans List.filter_sublist
theorem foldl_meet_len {m : Nat} : ∀ (R : List (List Int)) (r : List Int), r.length = m → (∀ x ∈ R, x.length = m) → (R.foldl meetL r).length = m
  | [], r, h, _ => h
  | x :: R, r, h, hx => foldl_meet_len R (meetL r x) (by rw [meetL_len, h, hx x List.mem_cons_self, Nat.max_self]) fun y hy => hx y (List.mem_cons_of_mem _ hy)
theorem boundL_len {R : List (List Int)} (hR : RowsOk R) : (boundL R).length = R.length := by
  cases R with
  | nil => rfl
  | cons r R => exact foldl_meet_len R r (hR.rl r List.mem_cons_self) fun x hx => hR.rl x (List.mem_cons_of_mem _ hx)
theorem keepB_nE {own : Int} {R : List (List Int)} {K : List Ev} {x e : Ev} (h : nE x = nE e) : keepB own R K x = keepB own R K e := by
  obtain ⟨dv, rv, rfl⟩ := nE_eq h.symm
  rfl
section
variable {b : World} {F : List SP} {va : Value} {LA : List Ac} {g gr gm h n cr : Nat} {own : Int} {Ar : Option Addr}
set_option maxRecDepth 20000 in
set_option maxHeartbeats 8000000 in
theorem acts_S {s0 : Sx} (hl : ∀ w, Sat b F w → LAs w va LA) (hw : ∀ a ∈ LA, EW a.e) (ha : ∀ a ∈ LA, AcOk a) (h30 : LA.length ≤ 30) (ho : regB n own = true) (hs0 : SxOk n 1000 s0) :
    SC Try.prog n_entrepotlaw24_acts [.pointer (some ⟨g, 0, none⟩), .pointer (some ⟨h, 0, none⟩), va] b (stT g gr gm h own Ar cr n s0 F) (fun u F' => u = .bool true ∧ F' = F) := by
  have h32 : ∀ a ∈ LA, a.e.id.length = 32 := fun a ha => (hw a ha).l32
  refine enterS F_entrepotlaw24_acts rfl rfl rfl ?_
  refine sw_fact (fun w H => sl_form (hl w (H.ent (ent_keep 9 [] rfl rfl))).sl) ?_
  rintro ⟨A0, c0, rfl, _, _, _, k4, _⟩
  (refine sw_seq ?_; refine sw_region ?_; refine so_1 rfl ?_; refine so_nil ?_; refine sn_then ?_; (iterate 2 refine sw_seq ?_); refine sw_region ?_; refine so_1 rfl ?_; refine so_nil ?_; refine sn_then ?_; refine sw_block ?_)
  refine sw_loop (S := Nat × Sx) (fun s => [(0, .pointer (some ⟨g, 0, none⟩)), (1, .pointer (some ⟨h, 0, none⟩)), (2, .slice A0 LA.length c0), (7, .int .i64 (s.1 : Int))]) (fun s => stT g gr gm h own Ar cr n s.2 F) (fun s => s.1 ≤ LA.length ∧ SxOk n (1000 + s.1) s.2) (fun s => LA.length - s.1) (0, s0) ⟨rfl, rfl, rfl, rfl, trivial⟩ (Ent.refl _) ⟨Nat.zero_le _, hs0⟩ ?_
  rintro ⟨i, s⟩ ⟨hi, hs⟩
  dsimp only at hi hs ⊢
  ((iterate 2 refine sw_seq ?_); refine sw_region ?_; (iterate 4 refine so_1 rfl ?_); refine so_nil ?_; refine sn_then ?_)
  refine sw_if rfl (fun h1 => ?_) (fun h1 => ?_)
  · have h1' : i < LA.length := by omega
    obtain ⟨gg, oo, rfl⟩ := k4 (by omega)
    have hmem := List.getElem_mem h1'
    have hc : ∀ w, Sat b F w → ∀ j, j < 43 → w.cell? ⟨gg, oo + i * 43 + j, none⟩ = (acC LA[i])[j]? := fun w H j hj => ac_cell (hl w H) h32 h1' hj
    have hvl : ∀ w, Sat b F w → VL (Value.int .i64) w LA[i].v LA[i].xs := fun w H => (hl w H).vl _ hmem
    have her : ∀ w, Sat b F w → ER w LA[i].e := fun w H => (hl w H).er _ hmem
    have hx32 := h32 _ hmem
    have hxg := (ha _ hmem).g (hw _ hmem)
    have hx20 := (ha _ hmem).1
    generalize LA[i] = a at *
    have xl := evC_len hx32
    have al := acC_len hx32
    have sg := acC_seg hx32
    refine sw_fact (fun w H => (hvl w (H.ent (ent_keep 9 [] rfl rfl))).form) ?_
    rintro ⟨A7, c7, hv7, _, _, _, _⟩
    refine sw_fact (fun w H => er_form (her w (H.ent (ent_keep 9 [] rfl rfl)))) ?_
    rintro ⟨o1, o2⟩
    have a1 := acC_one (a := a) (by rw [hv7]; rfl) o1 o2
    obtain ⟨hsi, hsn, hsc⟩ := hs
    (refine sw_skip ?_; refine sn_then ?_; refine sw_seq ?_; refine sw_block ?_; refine sw_seq ?_; refine sw_region ?_; (iterate 2 refine so_1 rfl ?_); refine so_2 rfl (by omega) ?_)
    refine so_rd rfl (fun w H => ex_loadN (cs := acC a) rfl rfl rfl al (fun j hj => by rw [mulz_eq, Int.toNat_natCast]; exact hc w (H.ent (ent_keep 9 [] rfl rfl)) j (by rw [al] at hj; exact hj))) rfl ?_
    refine so_new rfl rfl rfl rfl rfl fun g8 => ?_
    refine so_stW 0 rfl rfl rfl rfl rfl rfl rfl al a1 (by rw [al]; rfl) ?_
    (refine so_1 rfl ?_; refine so_nil ?_; refine sn_then ?_; refine sw_seq ?_)
    refine sw_float (fl := flo) 6 11 (pt g8 t_entrepotlaw24_Act (acC a) :: stT g gr gm h own Ar cr n s F) (by decide +kernel) rfl rfl rfl rfl (Ent.refl _) ?_
    (refine sv_1 rfl rfl rfl rfl (.inl rfl) ?_; refine sv_l 0 rfl rfl rfl rfl rfl rfl rfl ?_)
    refine sv_call (R := fun u F' => F' = rZ u a.xs :: pt g8 t_entrepotlaw24_Act (acC a) :: stT g gr gm h own Ar cr n s F) rfl rfl rfl rfl rfl rfl rfl (fun A => (CopyInts_S (up hvl ((ent_keep 10 [] rfl rfl).trans (ent_pre _))) (by omega)).mono (by rintro u _ rfl; exact ⟨_, rfl, rfl⟩)) ?_
    rintro v10 _ rfl
    refine ⟨ent_keep 1 [] rfl rfl, ?_⟩
    refine sv_fact (fun w H => (H.oat (k := 0) rfl).form) ?_
    rintro ⟨A10, c10, rfl, _, _, _⟩
    (refine sv_1 rfl rfl rfl rfl (.inl rfl) ?_)
    refine sv_ldA 0 rfl rfl rfl rfl rfl rfl rfl rfl rfl sg rfl rfl ?_
    refine sv_call (R := fun u F' => ∃ dv rv, u = evV (a.e.own dv rv) ∧ F' = rZ dv a.e.deps :: rD rv a.e.refs :: rZ (.slice A10 a.xs.length c10) a.xs :: pt g8 t_entrepotlaw24_Act (acC a) :: stT g gr gm h own Ar cr n s F) rfl rfl rfl rfl rfl rfl rfl (fun A => (CopyEvent_S (up her ((ent_keep 11 [] rfl rfl).trans (ent_pre _))) hx32 hxg.m.dn hxg.m.rn).mono (by rintro u _ ⟨dv, rv, rfl, rfl⟩; exact ⟨_, ⟨dv, rv, rfl, rfl⟩, rfl⟩)) ?_
    rintro _ _ ⟨dv, rv, rfl, rfl⟩
    refine ⟨ent_keep 3 [] rfl rfl, ?_⟩
    refine sv_fact (fun w H => (H.oat (k := 0) rfl).form) ?_
    rintro ⟨A2, c2, rfl, _, _, _⟩
    refine sv_fact (fun w H => (H.oat (k := 1) rfl).form) ?_
    rintro ⟨A3, c3, rfl, _, _, _⟩
    have hzl := evC_len (e := a.e.own (.slice A2 a.e.deps.length c2) (.slice A3 a.e.refs.length c3)) hx32
    have hz1 := evC_one (e := a.e.own (.slice A2 a.e.deps.length c2) (.slice A3 a.e.refs.length c3)) rfl rfl
    have hzn : nE (a.e.own (.slice A2 a.e.deps.length c2) (.slice A3 a.e.refs.length c3)) = nE a.e := rfl
    have hzd : dotE (a.e.own (.slice A2 a.e.deps.length c2) (.slice A3 a.e.refs.length c3)) = dotE a.e := rfl
    have hzP : evP (a.e.own (.slice A2 a.e.deps.length c2) (.slice A3 a.e.refs.length c3)) = [rZ (.slice A2 a.e.deps.length c2) a.e.deps, rD (.slice A3 a.e.refs.length c3) a.e.refs] := rfl
    generalize hze : a.e.own (.slice A2 a.e.deps.length c2) (.slice A3 a.e.refs.length c3) = x at *
    clear hze
    (refine sv_at ?_; refine sv_1 rfl rfl rfl rfl (.inl rfl) ?_)
    refine sv_join rfl (by decide +kernel) rfl fun g11 => ⟨ent_keep 4 [] rfl rfl, ?_⟩
    refine sd_stW 0 rfl rfl rfl rfl rfl rfl rfl rfl hzl hz1 (by rw [hzl]; rfl) (ent_keep 4 [] rfl rfl) ?_
    refine sd_nil (sn_then ?_)
    refine sw_ent (G := stT g gr gm h own Ar cr n s (pt g11 t_api_Event (evC x) :: pt g8 t_entrepotlaw24_Act (acC a) :: rZ (.slice A10 a.xs.length c10) a.xs :: (evP x ++ F))) (by rw [hzP]; exact ent_keep 14 [5, 6, 7, 8, 9, 10, 11, 12, 13, 0, 4, 3, 1, 2] rfl rfl) ?_
    refine sw_mid (S := Sx) (fun _ => [(0, .pointer (some ⟨g, 0, none⟩)), (1, .pointer (some ⟨h, 0, none⟩)), (2, .slice (some ⟨gg, oo, none⟩) LA.length c0), (7, .int .i64 (i : Int)), (8, .pointer (some ⟨g8, 0, none⟩)), (9, .bool true), (10, .slice A10 a.xs.length c10), (11, .pointer (some ⟨g11, 0, none⟩))])
      (fun s' => stT g gr gm h own Ar cr n s' (pt g11 t_api_Event (evC x) :: pt g8 t_entrepotlaw24_Act (acC a) :: rZ (.slice A10 a.xs.length c10) a.xs :: (evP x ++ F))) (fun s' => SxOk n (1000 + (i + 1)) s') ?_ ?_
    · (refine sw_seq ?_; refine sw_region ?_; refine so_1 rfl ?_; refine so_l 10 rfl rfl rfl ?_; refine so_nil ?_; refine sn_then ?_; refine sw_block ?_; refine sw_seq ?_; refine sw_region ?_; (iterate 2 refine so_1 rfl ?_); refine so_nil ?_; refine sn_then ?_)
      refine sw_if rfl (fun k0 => ?_) (fun k0 => ?_)
      · skip
        refine sw_draw flo (pt g8 t_entrepotlaw24_Act (acC a) :: F) (by decide +kernel) (ent_keep 14 [10] rfl rfl) ?_
        ((iterate 2 refine sd_1 rfl (.inl rfl) ?_); refine sd_l 0 rfl rfl rfl rfl ?_; refine sd_1 rfl (.inl rfl) ?_)
        refine sd_call rfl rfl rfl rfl (Seen_S hsi.ok (vlZ (k := 7) rfl)) ?_
        rintro _ _ ⟨rfl, rfl⟩
        refine ⟨ent_keep 14 [10] rfl rfl, ?_⟩
        ((iterate 2 refine sd_1 rfl (.inl rfl) ?_); refine sd_l 0 rfl rfl rfl rfl ?_; refine sd_1 rfl (.inl rfl) ?_; refine sd_l 0 rfl rfl rfl rfl ?_)
        refine sd_call rfl rfl rfl rfl ((rSeen_S hsi.ok hsn (up hvl (ent_keep 9 [] rfl rfl))).ent (ent_keep 9 [4, 5, 6, 7, 8, 0, 1, 2, 3] rfl rfl)) ?_
        rintro _ _ ⟨LR', hLR', rfl, rfl⟩
        have hok2 := seenT_ok hsi.ok a.r a.xs
        have hlen2 := seenT_len (s.LR.map Prod.snd) a.r a.xs
        generalize (seenT (s.LR.map Prod.snd) a.r a.xs).2 = R2 at *
        generalize (seenT (s.LR.map Prod.snd) a.r a.xs).1 = e1 at *
        subst hLR'
        refine ⟨ent_keep 14 [10] rfl rfl, ?_⟩
        ((iterate 2 refine sd_1 rfl (.inl rfl) ?_))
        refine sd_know 9 (.bool true) rfl (congrArg Value.bool (decide_eq_true rfl)) ?_
        refine sd_nil ?_
        (refine sn_block ?_)
        exact sn_mid ⟨s.K, s.L, LR', s.Al, s.cl⟩ ⟨rfl, rfl, rfl, rfl, rfl, rfl, rfl, rfl, trivial⟩ (ent_keep 9 [5, 6, 7, 8, 0, 1, 2, 3, 4] rfl rfl) ⟨hsi.rows hok2, by rw [List.length_map, List.length_map] at hlen2; exact hlen2.trans hsn, by dsimp only; omega⟩
      (refine sw_seq ?_; refine sw_region ?_; (iterate 2 refine so_1 rfl ?_); refine so_nil ?_; refine sn_then ?_)
      refine sw_if rfl (fun k1 => ?_) (fun k1 => ?_)
      · (refine sw_seq ?_; refine sw_region ?_; refine so_1 rfl ?_)
        refine so_ldA 9 rfl rfl rfl rfl rfl rfl (segO_all (by rw [hzl]; rfl)) rfl ?_
        refine so_call rfl rfl rfl (Keep_S (e := x) hsi.ok (by rw [List.length_map, hsn]; exact ho) hsi.mK (by rw [hzd]; exact hxg.dk) (fun w H => ⟨vlZ (k := 8) rfl w H, (H.oat (k := 9) rfl).sl⟩) (hxg.m.nE hzn)) ?_
        rintro _ F2 ⟨rfl, hF2⟩
        rw [keepB_nE hzn] at hF2 ⊢
        obtain ⟨K2, hK2, rfl⟩ : ∃ K2, ((keepB own (s.LR.map Prod.snd) s.K a.e).2 = false ∧ K2 = s.K ∨ (keepB own (s.LR.map Prod.snd) s.K a.e).2 = true ∧ ∃ y, nE y = nE a.e ∧ K2 = s.K ++ [y]) ∧ F2 = stM g gr gm own (s.LR.map Prod.snd) K2 (stQ h own Ar cr n s.LR s.Al s.cl s.L.length s.L (pt g11 t_api_Event (evC x) :: pt g8 t_entrepotlaw24_Act (acC a) :: rZ (.slice A10 a.xs.length c10) a.xs :: (evP x ++ F))) := by
          rcases hF2 with ⟨h1, rfl⟩ | ⟨h1, y, hy, rfl⟩
          · exact ⟨_, .inl ⟨h1, rfl⟩, rfl⟩
          · exact ⟨_, .inr ⟨h1, y, hy.trans hzn, rfl⟩, rfl⟩
        ((iterate 5 refine so_1 rfl ?_); refine so_nil ?_; refine sn_then ?_; refine sw_seq ?_; refine sw_region ?_; (iterate 2 refine so_1 rfl ?_))
        refine so_ldA 10 rfl rfl rfl rfl rfl rfl sg rfl ?_
        refine so_call rfl rfl rfl ((rKeep_S (e := a.e) hsi.ok hsn ho hsi.mL rfl (by have := hsi.len; omega) (up her (ent_keep 9 [] rfl rfl)) hxg.m).ent (ent_keep 9 [4, 5, 6, 7, 8, 0, 1, 2, 3] rfl rfl)) ?_
        rintro _ F3 ⟨rfl, hF3⟩
        rw [hsi.keep] at hF3 ⊢
        obtain ⟨L2, Al2, cl2, hL2, rfl⟩ : ∃ L2 Al2 cl2, ((keepB own (s.LR.map Prod.snd) s.K a.e).2 = false ∧ L2 = s.L ∨ (keepB own (s.LR.map Prod.snd) s.K a.e).2 = true ∧ IsSort (s.L.map nE ++ [nE a.e]) (L2.map nE)) ∧ F3 = stQ h own Ar cr n s.LR Al2 cl2 L2.length L2 (stM g gr gm own (s.LR.map Prod.snd) K2 (pt g11 t_api_Event (evC x) :: pt g8 t_entrepotlaw24_Act (acC a) :: rZ (.slice A10 a.xs.length c10) a.xs :: (evP x ++ F))) := by
          rcases hF3 with ⟨h1, rfl⟩ | ⟨h1, D, A', c', hD, rfl⟩
          · exact ⟨_, _, _, .inl ⟨h1, rfl⟩, rfl⟩
          · exact ⟨_, _, _, .inr ⟨h1, hD⟩, rfl⟩
        clear hF2 hF3
        have hnew : SxOk n (1000 + (i + 1)) ⟨K2, L2, s.LR, Al2, cl2⟩ := by
          rcases hK2 with ⟨q, rfl⟩ | ⟨q, y, hy, rfl⟩
          · rcases hL2 with ⟨_, rfl⟩ | ⟨q2, _⟩
            · exact ⟨hsi, hsn, by dsimp only; omega⟩
            · rw [q] at q2; cases q2
          · rcases hL2 with ⟨q2, _⟩ | ⟨_, hD⟩
            · rw [q] at q2; cases q2
            · exact ⟨hsi.kept hxg (keepB_new q) hy hD, hsn, by dsimp only; rw [List.length_append, List.length_singleton]; omega⟩
        clear hK2 hL2
        generalize (keepB own (s.LR.map Prod.snd) s.K a.e).1.1 = kb1 at *
        generalize (keepB own (s.LR.map Prod.snd) s.K a.e).1.2 = kb2 at *
        ((iterate 5 refine so_1 rfl ?_); refine so_nil ?_; refine sn_then ?_; refine sw_region ?_; (iterate 4 refine so_1 rfl ?_))
        refine so_know 78 (.bool true) rfl (by cases kb1 <;> rfl) ?_
        ((iterate 5 refine so_1 rfl ?_); refine so_nil ?_; refine sn_block ?_)
        exact sn_mid ⟨K2, L2, s.LR, Al2, cl2⟩ ⟨rfl, rfl, rfl, rfl, rfl, congrArg some (congrArg Value.bool (decide_eq_true rfl)), rfl, rfl, trivial⟩ (ent_keep 9 [5, 6, 7, 8, 0, 1, 2, 3, 4] rfl rfl) hnew
      (refine sw_seq ?_; refine sw_region ?_; (iterate 2 refine so_1 rfl ?_); refine so_nil ?_; refine sn_then ?_)
      refine sw_if rfl (fun k2 => ?_) (fun k2 => ?_)
      · (refine sw_seq ?_; refine sw_region ?_; refine so_1 rfl ?_)
        refine so_call rfl rfl rfl (mCollect_S hsi.ok hsi.mK hsi.dk hsi.nd (by omega) hsi.srt hsi.prm) ?_
        rintro va0 _ ⟨G, K2, hG, hK2, rfl⟩
        have hst : ∀ e : Ev, stB (s.LR.map Prod.snd) (nE e) = stB (s.LR.map Prod.snd) e := fun _ => rfl
        refine so_ent (G := stM g gr gm own (s.LR.map Prod.snd) K2 (stQ h own Ar cr n s.LR s.Al s.cl s.L.length s.L (rEs va0 G :: all (evF G) :: pt g11 t_api_Event (evC x) :: pt g8 t_entrepotlaw24_Act (acC a) :: rZ (.slice A10 a.xs.length c10) a.xs :: (evP x ++ F)))) (ent_keep 11 [2, 3, 4, 5, 6, 7, 8, 9, 10, 0, 1] rfl rfl) ?_
        (refine so_1 rfl ?_; refine so_nil ?_; refine sn_then ?_; refine sw_seq ?_; refine sw_region ?_; (iterate 2 refine so_1 rfl ?_))
        refine so_call rfl rfl rfl ((rCollect_S hsi.ok hsn hsi.mL rfl (by have := hsi.len; omega)).ent (ent_keep 9 [4, 5, 6, 7, 8, 0, 1, 2, 3] rfl rfl)) ?_
        rintro vb0 _ ⟨Al2, cl2, rfl⟩
        have hG2 : G.map nE = (s.L.filter (stB (s.LR.map Prod.snd))).map nE := by rw [hG]; exact (flt_nE _ hst s.L).symm
        have hnew : SxOk n (1000 + (i + 1)) ⟨K2, s.L.filter fun e => !stB (s.LR.map Prod.snd) e, s.LR, Al2, cl2⟩ :=
          ⟨hsi.rest (p := fun e => !stB (s.LR.map Prod.snd) e) (fun e => by rw [hst]) hK2, hsn, by
            have h1 := congrArg List.length hK2
            rw [List.length_map] at h1
            have h2 := List.length_filter_le (fun e => !stB (s.LR.map Prod.snd) e) (s.L.map nE)
            have h3 := hsi.len
            rw [List.length_map] at h2
            dsimp only; omega⟩
        have hGg : ∀ e ∈ G, EvG e := evG_sub hsi.gL fun y hy => by rw [hG] at hy; exact (List.mem_filter.1 hy).1
        have hGl : G.length ≤ 1000000 := by
          have h1 := congrArg List.length hG
          rw [List.length_map] at h1
          have h2 := List.length_filter_le (stB (s.LR.map Prod.snd)) (s.L.map nE)
          have h3 := hsi.len
          rw [List.length_map] at h2
          omega
        generalize s.L.filter (fun e => !stB (s.LR.map Prod.snd) e) = L2 at *
        generalize s.L.filter (stB (s.LR.map Prod.snd)) = G2 at *
        skip
        refine so_callE rfl rfl rfl (SameEvents_S hG2 (rEs_el (k := 11) (j := 12) rfl rfl) (rEs_el (k := 0) (j := 1) rfl rfl) (fun e he => (hGg e he).o)) ?_
        (refine so_1 rfl ?_; refine so_nil ?_; refine sn_then ?_; refine sw_region ?_; refine so_1 rfl ?_)
        refine so_know 87 va0 rfl rfl ?_
        refine so_call rfl rfl rfl ((OverEvents_D (fun e he => (hGg e he).p) (fun e he => (hGg e he).q) hGl).ent (ent_keep 13 [11, 12, 2, 3, 4, 5, 6, 7, 8, 9, 10] rfl rfl)) ?_
        rintro _ _ rfl
        (refine so_nil ?_; refine sn_block ?_)
        exact sn_mid ⟨K2, L2, s.LR, Al2, cl2⟩ ⟨rfl, rfl, rfl, rfl, rfl, rfl, rfl, rfl, trivial⟩ (ent_keep 9 [5, 6, 7, 8, 0, 1, 2, 3, 4] rfl rfl) hnew
      (refine sw_seq ?_; refine sw_region ?_; (iterate 2 refine so_1 rfl ?_); refine so_nil ?_; refine sn_then ?_)
      refine sw_if rfl (fun k3 => ?_) (fun k3 => ?_)
      · (refine sw_seq ?_; refine sw_region ?_; (iterate 2 refine so_1 rfl ?_); refine so_l 10 rfl rfl rfl ?_; (iterate 2 refine so_1 rfl ?_); refine so_l 10 rfl rfl rfl ?_)
        refine so_call rfl rfl rfl (Give_S hsi.ok hsi.mK (by omega) hsi.srt hsi.prm (vlZ (k := 7) rfl)) ?_
        rintro _ _ ⟨va0, G, rfl, hG, rfl⟩
        refine so_ent (G := stM g gr gm own (s.LR.map Prod.snd) s.K (stQ h own Ar cr n s.LR s.Al s.cl s.L.length s.L (rEs va0 G :: all (evF G) :: pt g11 t_api_Event (evC x) :: pt g8 t_entrepotlaw24_Act (acC a) :: rZ (.slice A10 a.xs.length c10) a.xs :: (evP x ++ F)))) (ent_keep 11 [2, 3, 4, 5, 6, 7, 8, 9, 10, 0, 1] rfl rfl) ?_
        ((iterate 5 refine so_1 rfl ?_); refine so_nil ?_; refine sn_then ?_; refine sw_seq ?_; refine sw_region ?_; (iterate 2 refine so_1 rfl ?_); refine so_l 12 rfl rfl rfl ?_; refine so_1 rfl ?_; refine so_l 12 rfl rfl rfl ?_; refine so_1 rfl ?_; refine so_l 12 rfl rfl rfl ?_)
        refine so_call rfl rfl rfl ((rGive_S hsi.ok hsn hsi.mL rfl (by have := hsi.len; omega) (up hvl (ent_keep 11 [] rfl rfl))).ent (ent_keep 9 [4, 5, 6, 7, 8, 0, 1, 2, 3] rfl rfl)) ?_
        rintro _ _ ⟨vb0, G2, rfl, hG2, rfl⟩
        have hsub := giveT_sub (s.LR.map Prod.snd) (s.L.map nE) a.r a.xs a.m
        generalize (giveT (s.LR.map Prod.snd) (s.L.map nE) a.r a.xs a.m).2 = e2 at *
        generalize (giveT (s.LR.map Prod.snd) (s.L.map nE) a.r a.xs a.m).1 = S2 at *
        have hGg : ∀ e ∈ G, EvG e := evG_sub hsi.gL fun y hy => by rw [hG] at hy; exact hsub.mem hy
        have hGl : G.length ≤ 1000000 := by
          have h1 := congrArg List.length hG
          have h2 := hsub.length_le
          rw [List.length_map] at h1 h2
          have h3 := hsi.len
          omega
        ((iterate 5 refine so_1 rfl ?_); refine so_nil ?_; refine sn_then ?_; refine sw_seq ?_; refine sw_region ?_; (iterate 2 refine so_1 rfl ?_))
        refine so_callE rfl rfl rfl (SameEvents_S (hG.trans hG2.symm) (rEs_el (k := 11) (j := 12) rfl rfl) (rEs_el (k := 0) (j := 1) rfl rfl) (fun e he => (hGg e he).o)) ?_
        ((iterate 6 refine so_1 rfl ?_); refine so_nil ?_; refine sn_then ?_; refine sw_region ?_; refine so_1 rfl ?_)
        refine so_call rfl rfl rfl ((OverEvents_D (fun e he => (hGg e he).p) (fun e he => (hGg e he).q) hGl).ent (ent_keep 13 [11, 12, 2, 3, 4, 5, 6, 7, 8, 9, 10] rfl rfl)) ?_
        rintro _ _ rfl
        (refine so_nil ?_; refine sn_block ?_)
        exact sn_mid ⟨s.K, s.L, s.LR, s.Al, s.cl⟩ ⟨rfl, rfl, rfl, rfl, rfl, congrArg some (congrArg Value.bool (decide_eq_true rfl)), rfl, rfl, trivial⟩ (ent_keep 9 [5, 6, 7, 8, 0, 1, 2, 3, 4] rfl rfl) ⟨hsi, hsn, by dsimp only; omega⟩
      · (refine sw_skip ?_; refine sn_block ?_)
        exact sn_mid s ⟨rfl, rfl, rfl, rfl, rfl, rfl, rfl, rfl, trivial⟩ (Ent.refl _) ⟨hsi, hsn, by omega⟩
    · clear hsi hsn hsc
      rintro s ⟨hsi, hsn, hsc⟩
      (refine sw_seq ?_; refine sw_region ?_; (iterate 4 refine so_1 rfl ?_); refine so_l 10 rfl rfl rfl ?_)
      refine so_callE rfl rfl rfl (SameInts_S (vlZ (k := 11) rfl) (up hvl (ent_keep 14 [] rfl rfl))) ?_
      rw [decide_eq_true (rfl : a.xs = a.xs)]
      ((iterate 2 refine so_1 rfl ?_))
      refine so_ldA 9 rfl rfl rfl rfl rfl rfl (segO_all (by rw [hzl]; rfl)) rfl ?_
      (refine so_1 rfl ?_)
      refine so_ldA 10 rfl rfl rfl rfl rfl rfl sg rfl ?_
      refine so_callE rfl rfl rfl (SameEvent_S hzn (fun w H => ⟨vlZ (k := 12) rfl w H, (H.oat (k := 13) rfl).sl⟩) (up her (ent_keep 14 [] rfl rfl)) (hxg.nE hzn).m.l32 (hxg.nE hzn).r32 (hxg.nE hzn).m.rn) ?_
      ((iterate 2 refine so_1 rfl ?_); refine so_nil ?_; refine sn_then ?_; refine sw_seq ?_; refine sw_region ?_; refine so_1 rfl ?_)
      refine so_call rfl rfl rfl ((OverInts_D (v := .slice A10 a.xs.length c10) (l := a.xs) (by omega)).ent (ent_keep 14 [11, 0, 1, 2, 3, 4, 5, 6, 7, 8, 9, 10, 12, 13] rfl rfl)) ?_
      rintro _ _ rfl
      (refine so_nil ?_; refine sn_then ?_; refine sw_seq ?_; refine sw_region ?_)
      refine so_ldA 9 rfl rfl rfl rfl rfl rfl (segO_all (by rw [hzl]; rfl)) rfl ?_
      refine so_lit1 rfl rfl rfl rfl rfl rfl rfl hzl (by decide) fun gl => ?_
      refine so_ent (ent_blk_row (n := 1) (sz := 39) rfl (by rw [hzl]) (by decide) 0 rfl rfl) ?_
      refine so_ent (G := rEs (.slice (some ⟨gl, 0, none⟩) 1 1) [x] :: all (evF [x]) :: stT g gr gm h own Ar cr n s (pt g8 t_entrepotlaw24_Act (acC a) :: F)) (by
        have e1 : evsC [x] = evC x := by simp [flC]
        rw [rEs, e1]
        exact (ent_keep 14 [12, 13, 0, 1, 2, 3, 4, 5, 6, 7, 8, 9, 11] rfl rfl).trans ((ent_close (G := evF [x])).trans (ent_keep 2 [1, 0] rfl rfl))) ?_
      refine so_call rfl rfl rfl (OverEvents_D (v := .slice (some ⟨gl, 0, none⟩) 1 1) (l := [x]) (fun e he => by rw [List.mem_singleton.1 he]; exact (hxg.nE hzn).p) (fun e he => by rw [List.mem_singleton.1 he]; exact (hxg.nE hzn).q) (by simp)) ?_
      rintro _ _ rfl
      (refine so_nil ?_; refine sn_then ?_; refine sw_seq ?_; refine sw_region ?_; refine so_1 rfl ?_)
      refine so_call rfl rfl rfl (Rows_S hsi.ok) ?_
      rintro av _ ⟨Lr, hLr, rfl⟩
      refine so_ent (G := stT g gr gm h own Ar cr n s (rRs av Lr :: all (vF Lr) :: pt g8 t_entrepotlaw24_Act (acC a) :: F)) (ent_keep 11 [2, 3, 4, 5, 6, 7, 8, 9, 10, 0, 1] rfl rfl) ?_
      (refine so_1 rfl ?_)
      refine so_call rfl rfl rfl (Bound_S hsi.ok) ?_
      rintro bv _ rfl
      refine so_ent (G := stT g gr gm h own Ar cr n s (rZ bv (boundL (s.LR.map Prod.snd)) :: rRs av Lr :: all (vF Lr) :: pt g8 t_entrepotlaw24_Act (acC a) :: F)) (ent_keep 10 [1, 2, 3, 4, 5, 6, 7, 8, 9, 0] rfl rfl) ?_
      (refine so_1 rfl ?_)
      refine so_call rfl rfl rfl (Kept_S hsi.ok hsi.mK (by omega) hsi.srt hsi.prm) ?_
      rintro cv _ ⟨D, hD, rfl⟩
      have hDg : ∀ e ∈ D, EvG e := evG_map hsi.gL hD
      have hDl : D.length ≤ 1000000 := by
        have h1 := congrArg List.length hD
        rw [List.length_map, List.length_map] at h1
        have h3 := hsi.len
        omega
      refine so_ent (G := stT g gr gm h own Ar cr n s (rEs cv D :: all (evF D) :: rZ bv (boundL (s.LR.map Prod.snd)) :: rRs av Lr :: all (vF Lr) :: pt g8 t_entrepotlaw24_Act (acC a) :: F)) (ent_keep 11 [2, 3, 4, 5, 6, 7, 8, 9, 10, 0, 1] rfl rfl) ?_
      ((iterate 3 refine so_1 rfl ?_); refine so_nil ?_; refine sn_then ?_; refine sw_seq ?_; refine sw_region ?_; (iterate 3 refine so_1 rfl ?_); refine so_l 14 rfl rfl rfl ?_)
      refine so_call rfl rfl rfl (Find_S (d := dotE a.e) hsi.ok hsi.mK hxg.dk) ?_
      rintro _ _ ⟨y, hyn, rfl, rfl⟩
      have hym : EvM y := (lkE_m hsi.mK (dotE a.e)).nE hyn
      have hyl : (evC y).length = 39 := evC_len hym.l32
      refine so_fact (fun w H => (H.oat (k := 0) rfl).form) ?_
      rintro ⟨A5, c5, hdv, _, _, _⟩
      refine so_fact (fun w H => (H.oat (k := 1) rfl).form) ?_
      rintro ⟨A6, c6, hrv, _, _, _⟩
      have hy1 := evC_one (e := y) (by rw [hdv]; rfl) (by rw [hrv]; rfl)
      clear hdv hrv
      ((iterate 3 refine so_1 rfl ?_))
      refine so_new rfl rfl rfl rfl rfl fun g24 => ?_
      refine so_stW 0 rfl rfl rfl rfl rfl rfl rfl hyl hy1 (by rw [hyl]; rfl) ?_
      (refine so_1 rfl ?_; refine so_nil ?_; refine sn_then ?_; refine sw_seq ?_; refine sw_region ?_; (iterate 3 refine so_1 rfl ?_); refine so_l 17 rfl rfl rfl ?_)
      refine so_ent (G := stT g gr gm h own Ar cr n s (pt g24 t_api_Event (evC y) :: rZ y.dv y.deps :: rD y.rv y.refs :: rEs cv D :: all (evF D) :: rZ bv (boundL (s.LR.map Prod.snd)) :: rRs av Lr :: all (vF Lr) :: pt g8 t_entrepotlaw24_Act (acC a) :: F)) (ent_keep 12 [3, 4, 5, 6, 7, 8, 9, 10, 11, 0, 1, 2] rfl rfl) ?_
      refine so_call rfl rfl rfl ((rFind_S (d := dotE a.e) hsi.mL rfl (by have := hsi.len; omega)).ent (ent_keep 9 [4, 5, 6, 7, 8, 0, 1, 2, 3] rfl rfl)) ?_
      rintro _ _ ⟨z, hzn2, rfl, rfl⟩
      rw [hsi.lk] at hzn2
      rw [hsi.is]
      have hzm : EvM z := (lkE_m hsi.mK (dotE a.e)).nE hzn2
      have hzl2 : (evC z).length = 39 := evC_len hzm.l32
      have hyz : nE y = nE z := hyn.trans hzn2.symm
      have hyr : len32 y.refs := by
        have e : (nE y).refs = (nE (lkE s.K (dotE a.e))).refs := by rw [hyn]
        have e2 : y.refs = (lkE s.K (dotE a.e)).refs := e
        rw [e2]
        unfold lkE
        cases hf : findE s.K (dotE a.e) with
        | none => intro q hq; cases hq
        | some f => exact (hsi.g f (findE_some hf).1).r32
      refine so_fact (fun w H => (H.oat (k := 0) rfl).form) ?_
      rintro ⟨A8, c8, hdv, _, _, _⟩
      refine so_fact (fun w H => (H.oat (k := 1) rfl).form) ?_
      rintro ⟨A9, c9, hrv, _, _, _⟩
      have hz2 := evC_one (e := z) (by rw [hdv]; rfl) (by rw [hrv]; rfl)
      clear hdv hrv
      generalize (findE s.K (dotE a.e)).isSome = is at *
      ((iterate 3 refine so_1 rfl ?_))
      refine so_new rfl rfl rfl rfl rfl fun g26 => ?_
      refine so_stW 0 rfl rfl rfl rfl rfl rfl rfl hzl2 hz2 (by rw [hzl2]; rfl) ?_
      (refine so_1 rfl ?_; refine so_nil ?_; refine sn_then ?_; (iterate 2 refine sw_seq ?_); refine sw_region ?_; (iterate 7 refine so_1 rfl ?_); refine so_l 3 rfl rfl rfl ?_)
      refine so_ent (G := stT g gr gm h own Ar cr n s (pt g26 t_api_Event (evC z) :: rZ z.dv z.deps :: rD z.rv z.refs :: pt g24 t_api_Event (evC y) :: rZ y.dv y.deps :: rD y.rv y.refs :: rEs cv D :: all (evF D) :: rZ bv (boundL (s.LR.map Prod.snd)) :: rRs av Lr :: all (vF Lr) :: F)) (ent_keep 21 [8, 9, 10, 11, 3, 4, 5, 6, 7, 0, 1, 2, 12, 13, 14, 15, 16, 17, 18, 19] rfl rfl) ?_
      refine so_callE rfl rfl rfl (SameRows_S (l := Lr) (m := s.LR) hLr (vF_rl (j := 18) (k := 19) rfl rfl) (vF_rln (j := 5) (k := 6) hsn rfl rfl)) ?_
      ((iterate 5 refine so_1 rfl ?_))
      refine so_call rfl rfl rfl ((rBound_S hsi.ok hsn).ent (ent_keep 9 [4, 5, 6, 7, 8, 0, 1, 2, 3] rfl rfl)) ?_
      rintro wv _ rfl
      refine so_callE rfl rfl rfl (SameInts_S (vlZ (k := 18) rfl) (vlZ (k := 0) rfl)) ?_
      rw [decide_eq_true (rfl : boundL (s.LR.map Prod.snd) = boundL (s.LR.map Prod.snd))]
      refine so_ent (G := stT g gr gm h own Ar cr n s (pt g26 t_api_Event (evC z) :: rZ z.dv z.deps :: rD z.rv z.refs :: pt g24 t_api_Event (evC y) :: rZ y.dv y.deps :: rD y.rv y.refs :: rEs cv D :: all (evF D) :: rZ bv (boundL (s.LR.map Prod.snd)) :: rRs av Lr :: all (vF Lr) :: F)) (ent_keep 10 [6, 7, 8, 9, 1, 2, 3, 4, 5] rfl rfl) ?_
      ((iterate 7 refine so_1 rfl ?_); refine so_l 4 rfl rfl rfl ?_)
      refine so_callE rfl rfl rfl (SameEvents_S hD (rEs_el (k := 15) (j := 16) rfl rfl) (rEs_el (k := 7) (j := 8) rfl rfl) (fun e he => (hDg e he).o)) ?_
      ((iterate 3 refine so_1 rfl ?_))
      refine so_ldA 12 rfl rfl rfl rfl rfl rfl (segO_all (by rw [hyl]; rfl)) rfl ?_
      refine so_ldA 9 rfl rfl rfl rfl rfl rfl (segO_all (by rw [hzl2]; rfl)) rfl ?_
      refine so_callE rfl rfl rfl (SameEvent_S hyz (fun w H => ⟨vlZ (k := 13) rfl w H, (H.oat (k := 14) rfl).sl⟩) (fun w H => ⟨vlZ (k := 10) rfl w H, (H.oat (k := 11) rfl).sl⟩) hym.l32 hyr hym.rn) ?_
      ((iterate 7 refine so_1 rfl ?_); refine so_nil ?_; refine sn_then ?_)
      refine sw_know 203 (.bool false) rfl (by cases is <;> rfl) ?_
      (refine sw_cond_f rfl ?_; refine sw_skip ?_; refine sn_then ?_; refine sw_seq ?_; refine sw_region ?_; refine so_1 rfl ?_)
      refine so_call rfl rfl rfl ((OverRows_D (l := Lr) (fun p hp => ?_)).ent (ent_keep 20 [18, 19, 0, 1, 2, 3, 4, 5, 6, 7, 8, 9, 10, 11, 12, 13, 14, 15, 16, 17] rfl rfl)) ?_
      · have h9 := hsi.ok.rl p.2 (by rw [← hLr]; exact List.mem_map_of_mem hp)
        have h10 := hsi.ok.n16
        omega
      rintro _ _ rfl
      (refine so_nil ?_; refine sn_then ?_; refine sw_seq ?_; refine sw_region ?_; refine so_1 rfl ?_)
      refine so_call rfl rfl rfl ((OverInts_D (v := bv) (l := boundL (s.LR.map Prod.snd)) (by have h9 := boundL_len hsi.ok; have h10 := hsi.ok.n16; omega)).ent (ent_keep 18 [17, 0, 1, 2, 3, 4, 5, 6, 7, 8, 9, 10, 11, 12, 13, 14, 15, 16] rfl rfl)) ?_
      rintro _ _ rfl
      (refine so_nil ?_; refine sn_then ?_; refine sw_region ?_; refine so_1 rfl ?_)
      refine so_call rfl rfl rfl ((OverEvents_D (v := cv) (l := D) (fun e he => (hDg e he).p) (fun e he => (hDg e he).q) hDl).ent (ent_keep 17 [15, 16, 0, 1, 2, 3, 4, 5, 6, 7, 8] rfl rfl)) ?_
      rintro _ _ rfl
      (refine so_nil ?_; refine sn_block ?_; refine sn_then ?_; refine sw_region ?_; refine so_1 rfl ?_; refine so_2 rfl (by (unfold I64; omega)) ?_; refine so_1 rfl ?_; refine so_nil ?_)
      rw [show (i : Int) + 1 = ((i + 1 : Nat) : Int) by omega]
      exact sn_round (i + 1, s) ⟨rfl, rfl, rfl, rfl, trivial⟩ (Ent.refl _) ⟨h1', hsi, hsn, hsc⟩ (by dsimp only; omega)
  · (refine sw_exit ?_; refine sn_then_exit ?_; refine sn_loop_exit ?_; refine sn_block_exit ?_; refine sn_then ?_; refine sw_seq ?_; refine sw_region ?_; refine so_1 rfl ?_; refine so_nil ?_; refine sn_then ?_; refine sw_ret ?_)
    refine sn_ret rfl (.tmp rfl .nil) (ent_keep 9 [] rfl rfl) ?_
    exact ⟨rfl, rfl⟩
end
end Go.Proofs.Ytajbpdmhpcpkgaa
