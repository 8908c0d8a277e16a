/- Who has what, part eleven: a matrix is made. Conditions: not too many. -/
import Derived.Test.YtajbpdmhpcpkgaaJ7
import Derived.Test.YtajbpdmhpcpkgaaJ5
import Derived.Test.YtajbpdmhpcpkgaaJ6
namespace Go.Proofs.Ytajbpdmhpcpkgaa
open Go Go.Eng Go.RowKit Go.WideMaps

def newB (n : Nat) (own : Int) : Bool := decide (1 ≤ n ∧ n ≤ 16 ∧ 1 ≤ own ∧ own ≤ n)
theorem newB_iff {n : Nat} {own : Int} : newB n own = true ↔ 1 ≤ n ∧ n ≤ 16 ∧ 1 ≤ own ∧ own ≤ n := by unfold newB; exact decide_eq_true_iff
theorem made_same {zs : Array Value} {z : Value} (k : Nat) (h : zs.toList = List.replicate (k + 1) z) (m : Nat) : (madeCells zs m).toList = List.replicate m z := by
  have hs : zs.size = k + 1 := by rw [← Array.length_toList, h, List.length_replicate]
  apply List.ext_getElem
  · simp [madeCells]
  · intro i h1 h2
    simp only [madeCells, Array.toList_map, List.getElem_map, List.getElem_replicate]
    have hlt := Nat.mod_lt i (show 0 < zs.size by omega)
    simp only [Array.toList_range, List.getElem_range]
    rw [getElem!_pos zs _ hlt, ← Array.getElem_toList hlt]
    have hu : ∀ u ∈ zs.toList, u = z := by rw [h]; exact fun u hu => List.eq_of_mem_replicate hu
    exact hu _ (List.getElem_mem _)
theorem rwC_zero {n : Nat} (h : n ≤ 16) : rwC (List.replicate n 0) = List.replicate 16 (.int .i64 0) := by
  simp only [rwC, List.length_replicate, ints, List.map_append, List.map_replicate, List.replicate_append_replicate]
  congr 1; omega
theorem rws_zero {n : Nat} (h : n ≤ 16) : ∀ k, rwsC (List.replicate k (List.replicate n 0)) = List.replicate (k * 16) (.int .i64 0)
  | 0 => rfl
  | k + 1 => by
    rw [List.replicate_succ]
    show rwC _ ++ rwsC _ = _
    rw [rwC_zero h, rws_zero h k, List.replicate_append_replicate]
    congr 1; omega
theorem rows_zero {n : Nat} (h1 : 1 ≤ n) (h : n ≤ 16) : RowsOk (List.replicate n (List.replicate n 0)) := by
  refine ⟨by simpa using h1, by simpa using h, fun r hr => ?_, fun r hr x hx => ?_⟩
  · rw [List.eq_of_mem_replicate hr]; simp
  · rw [List.eq_of_mem_replicate hr] at hx
    rw [List.eq_of_mem_replicate hx]; omega
section
variable {b : World} {F : List SP} {v : Value}
theorem mNew_bad {n : Nat} {own : Int} (h : newB n own = false) : SC Try.prog n_stable_New [.int .i64 n, .int .i64 own] b F (fun u F' => u = .tuple ⟨[.pointer none, .int .i64 3]⟩ ∧ F' = F) := by
  have hh : ¬ (1 ≤ n ∧ n ≤ 16 ∧ 1 ≤ own ∧ own ≤ n) := fun q => by rw [newB_iff.2 q] at h; cases h
  refine enterS F_stable_New rfl rfl rfl ?_
  (refine sw_seq ?_; refine sw_region ?_; (iterate 2 refine so_1 rfl ?_); refine so_nil ?_; refine sn_then ?_; (iterate 2 refine sw_seq ?_); refine sw_region ?_; (iterate 3 refine so_1 rfl ?_))
  by_cases h1 : (n : Int) < 1
  · refine so_know 8 (.bool true) rfl (congrArg Value.bool (decide_eq_true h1)) ?_
    ((iterate 12 refine so_1 rfl ?_); refine so_nil ?_; refine sn_then ?_; refine sw_cond_t rfl ?_; refine sw_seq ?_; refine sw_region ?_; (iterate 2 refine so_1 rfl ?_); refine so_nil ?_; refine sn_then ?_; refine sw_ret ?_; refine sn_then_ret ?_)
    refine sn_ret rfl (.tmp rfl (.tmp rfl .nil)) (Ent.refl _) ?_
    exact ⟨rfl, rfl⟩
  refine so_know 8 (.bool false) rfl (congrArg Value.bool (decide_eq_false h1)) ?_
  ((iterate 4 refine so_1 rfl ?_))
  by_cases h2 : (16 : Int) < n
  · refine so_know 12 (.bool true) rfl (congrArg Value.bool (decide_eq_true h2)) ?_
    ((iterate 8 refine so_1 rfl ?_); refine so_nil ?_; refine sn_then ?_; refine sw_cond_t rfl ?_; refine sw_seq ?_; refine sw_region ?_; (iterate 2 refine so_1 rfl ?_); refine so_nil ?_; refine sn_then ?_; refine sw_ret ?_; refine sn_then_ret ?_)
    refine sn_ret rfl (.tmp rfl (.tmp rfl .nil)) (Ent.refl _) ?_
    exact ⟨rfl, rfl⟩
  refine so_know 12 (.bool false) rfl (congrArg Value.bool (decide_eq_false h2)) ?_
  ((iterate 4 refine so_1 rfl ?_))
  by_cases h3 : own < 1
  · refine so_know 16 (.bool true) rfl (congrArg Value.bool (decide_eq_true h3)) ?_
    ((iterate 4 refine so_1 rfl ?_); refine so_nil ?_; refine sn_then ?_; refine sw_cond_t rfl ?_; refine sw_seq ?_; refine sw_region ?_; (iterate 2 refine so_1 rfl ?_); refine so_nil ?_; refine sn_then ?_; refine sw_ret ?_; refine sn_then_ret ?_)
    refine sn_ret rfl (.tmp rfl (.tmp rfl .nil)) (Ent.refl _) ?_
    exact ⟨rfl, rfl⟩
  refine so_know 16 (.bool false) rfl (congrArg Value.bool (decide_eq_false h3)) ?_
  ((iterate 4 refine so_1 rfl ?_); refine so_nil ?_; refine sn_then ?_)
  refine sw_if rfl (fun h4 => ?_) (fun h4 => by omega)
  (refine sw_seq ?_; refine sw_region ?_; (iterate 2 refine so_1 rfl ?_); refine so_nil ?_; refine sn_then ?_; refine sw_ret ?_; refine sn_then_ret ?_)
  refine sn_ret rfl (.tmp rfl (.tmp rfl .nil)) (Ent.refl _) ?_
  exact ⟨rfl, rfl⟩
set_option maxRecDepth 20000 in
set_option maxHeartbeats 1000000 in
theorem mNew_S {n : Nat} {own : Int} (h : newB n own = true) : SC Try.prog n_stable_New [.int .i64 n, .int .i64 own] b F (fun u F' => ∃ g gr gm, u = .tuple ⟨[.pointer (some ⟨g, 0, none⟩), .int .i64 0]⟩ ∧ F' = stM g gr gm own (List.replicate n (List.replicate n 0)) [] F) := by
  obtain ⟨a1, a2, a3, a4⟩ := newB_iff.1 h
  refine enterS F_stable_New rfl rfl rfl ?_
  (refine sw_seq ?_; refine sw_region ?_; (iterate 2 refine so_1 rfl ?_); refine so_nil ?_; refine sn_then ?_; (iterate 2 refine sw_seq ?_); refine sw_region ?_; (iterate 3 refine so_1 rfl ?_))
  refine so_know 8 (.bool false) rfl (congrArg Value.bool (decide_eq_false (by omega))) ?_
  ((iterate 4 refine so_1 rfl ?_))
  refine so_know 12 (.bool false) rfl (congrArg Value.bool (decide_eq_false (by omega))) ?_
  ((iterate 4 refine so_1 rfl ?_))
  refine so_know 16 (.bool false) rfl (congrArg Value.bool (decide_eq_false (by omega))) ?_
  ((iterate 4 refine so_1 rfl ?_); refine so_nil ?_; refine sn_then ?_)
  refine sw_if rfl (fun h4 => by omega) (fun _ => ?_)
  (refine sw_skip ?_; refine sn_then ?_; refine sw_seq ?_; refine sw_region ?_; (iterate 2 refine so_1 rfl ?_))
  refine so_make (sz := 16) (n := n) (cs := List.replicate (n * 16) (.int .i64 0)) rfl rfl rfl rfl rfl rfl rfl rfl rfl (by omega) (by exact made_same (z := .int .i64 0) 15 rfl _) fun gr => ?_
  rw [← rws_zero a2 n]
  refine so_ent (G := rWr gr (List.replicate n (List.replicate n 0)) :: F) (by simp only [rWr, List.length_replicate]; exact Ent.refl _) ?_
  skip
  refine so_mkmap dotP dotOk rfl rfl rfl fun gm => ?_
  (refine so_1 rfl ?_)
  refine so_box rfl rfl rfl rfl rfl fun g => ?_
  ((iterate 2 refine so_1 rfl ?_); refine so_nil ?_; refine sn_then ?_; refine sw_ret ?_)
  refine sn_ret rfl (.tmp rfl (.tmp rfl .nil)) (((ent_close (G := [])).trans (ent_keep 4 [1, 3, 2, 0] rfl rfl))) ?_
  exact ⟨g, gr, gm, rfl, by simp only [stM, List.length_replicate]; rfl⟩
end
end Go.Proofs.Ytajbpdmhpcpkgaa
/- Who has what, part twelve: a matrix is loaded. Conditions: not too many. -/
namespace Go.Proofs.Ytajbpdmhpcpkgaa
open Go Go.Eng Go.RowKit Go.WideMaps

/-- Why an event is not loaded. -/
def evErr (R : List (List Int)) (r0 : List Int) (seen : List Ev) (x : Ev) : Int :=
  if fitB R.length x = false then 2 else if hasL r0 x.r x.n = false then 25 else if (findE seen (dotE x)).isSome = true then 19 else 0
def ldErr (R : List (List Int)) (r0 : List Int) : List Ev → List Ev → Int
  | _, [] => 0
  | seen, x :: l => if evErr R r0 seen x = 0 then ldErr R r0 (seen ++ [x]) l else evErr R r0 seen x
def loadErr (own : Int) (R : List (List Int)) (l : List Ev) : Int :=
  if newB R.length own = false then 3 else if R.all (numB R.length) = false then 2 else ldErr R (R.getD (own.toNat - 1) []) [] l
theorem findE_nE (K : List Ev) (d : Int × Int) : (findE (K.map nE) d).isSome = (findE K d).isSome := by
  induction K with
  | nil => rfl
  | cons e K ih =>
    simp only [findE, List.map_cons, List.find?_cons] at *
    by_cases h : dotE e = d
    · have h2 : dotE (nE e) = d := h
      rw [decide_eq_true h, decide_eq_true h2]; rfl
    · have h2 : ¬ dotE (nE e) = d := h
      rw [decide_eq_false h, decide_eq_false h2]; exact ih
theorem rowsOk_of {R : List (List Int)} (h1 : 1 ≤ R.length) (h2 : R.length ≤ 16) (h : R.all (numB R.length) = true) : RowsOk R :=
  ⟨h1, h2, fun r hr => (numB_iff.1 (List.all_eq_true.1 h r hr)).1, fun r hr => (numB_iff.1 (List.all_eq_true.1 h r hr)).2⟩
/-- Rows may be read. -/
structure RL (w : World) (v : Value) (L : List (Value × List Int)) : Prop where
  sl : SL w 1 v L.length (L.map Prod.fst)
  vl : ∀ m ∈ L, VL (Value.int .i64) w m.1 m.2
section
variable {b : World} {F : List SP}
end
end Go.Proofs.Ytajbpdmhpcpkgaa
/- Who has what, part thirteen: the document's matrix in memory; its numbers, what fits, what is found, what all have. Conditions: not too many. -/
namespace Go.Proofs.Ytajbpdmhpcpkgaa
open Go Go.Eng Go.RowKit Go.WideMaps

section
variable {b : World} {F : List SP} {v : Value} {xs ys : List Int} {h n k cr cl : Nat} {own : Int} {Ar Al : Option Addr} {LR : List (Value × List Int)} {L : List Ev} {e : Ev}
end
end Go.Proofs.Ytajbpdmhpcpkgaa
/- Who has what, part fourteen: the document's matrix: made, asked for an event, told what a region has. Conditions: not too many. -/
namespace Go.Proofs.Ytajbpdmhpcpkgaa
open Go Go.Eng Go.RowKit Go.WideMaps

section
variable {b : World} {F : List SP} {v : Value} {xs ys : List Int} {h n k cr cl : Nat} {own : Int} {Ar Al : Option Addr} {LR : List (Value × List Int)} {L : List Ev} {e : Ev}
end
end Go.Proofs.Ytajbpdmhpcpkgaa
/- Who has what, part fifteen: the document's matrix is made; events copied. Conditions: not too many. -/
namespace Go.Proofs.Ytajbpdmhpcpkgaa
open Go Go.Eng Go.RowKit Go.WideMaps

section
variable {b : World} {F : List SP} {v : Value} {l : List Ev}
end
end Go.Proofs.Ytajbpdmhpcpkgaa
/- Who has what, part sixteen: the document's matrix: Keep, Collect, Give. Conditions: not too many. -/
namespace Go.Proofs.Ytajbpdmhpcpkgaa
open Go Go.Eng Go.RowKit Go.WideMaps

section
variable {b : World} {F : List SP} {v : Value} {xs ys : List Int} {h n k cr cl : Nat} {own : Int} {Ar Al : Option Addr} {LR : List (Value × List Int)} {L : List Ev} {e : Ev}
end
end Go.Proofs.Ytajbpdmhpcpkgaa
/- Who has what, part seventeen: the document's matrix: Collect, Give. Conditions: not too many. -/
namespace Go.Proofs.Ytajbpdmhpcpkgaa
open Go Go.Eng Go.RowKit Go.WideMaps

theorem evs_two {L : List Ev} {i : Nat} {y : Ev} (fx : ((evsC L).drop (i * 39)).take 39 = evC y) : ((evsC L).drop (i * 39)).take 2 = [.int .i64 y.r, .int .i64 y.n] := by
  have := congrArg (List.take 2) fx
  rw [List.take_take] at this
  simpa [evC] using this
section
variable {b : World} {F : List SP} {v : Value} {xs ys : List Int} {h n k cr cl : Nat} {own : Int} {Ar Al : Option Addr} {LR : List (Value × List Int)} {L : List Ev} {e : Ev}
end
end Go.Proofs.Ytajbpdmhpcpkgaa
/- Who has what, part eighteen: the document's matrix: Give. Conditions: not too many. -/
namespace Go.Proofs.Ytajbpdmhpcpkgaa
open Go Go.Eng Go.RowKit Go.WideMaps

section
variable {b : World} {F : List SP} {v : Value} {xs ys : List Int} {h n k cr cl : Nat} {own : Int} {Ar Al : Option Addr} {LR : List (Value × List Int)} {L : List Ev} {e : Ev}
end
end Go.Proofs.Ytajbpdmhpcpkgaa
/- Who has what, part nineteen: the document's matrix: Load. Conditions: not too many. -/
namespace Go.Proofs.Ytajbpdmhpcpkgaa
open Go Go.Eng Go.RowKit Go.WideMaps

section
variable {b : World} {F : List SP}
end
end Go.Proofs.Ytajbpdmhpcpkgaa
/- Who has what, part twenty: the kit's functions on rows and events. Conditions: not too many. -/
namespace Go.Proofs.Ytajbpdmhpcpkgaa
open Go Go.Eng Go.RowKit Go.WideMaps

section
variable {b : World} {F : List SP} {v : Value}
set_option maxRecDepth 20000 in
set_option maxHeartbeats 4000000 in
theorem SameEvents_S {va vb : Value} {l m : List Ev} (h : l.map nE = m.map nE) (ha : ∀ w, Sat b F w → EL w va l) (hb : ∀ w, Sat b F w → EL w vb m) (h32 : ∀ x ∈ l, x.id.length = 32 ∧ len32 x.refs ∧ x.refs.length ≤ 1000000) :
    SC Try.prog n_entrepotkit_SameEvents [va, vb] b F (fun v F' => v = .bool true ∧ F' = F) := by
  have hl : l.length = m.length := by have := congrArg List.length h; rwa [List.length_map, List.length_map] at this
  have hA32 : ∀ x ∈ l, x.id.length = 32 := fun x hx => (h32 x hx).1
  have hB32 : ∀ x ∈ m, x.id.length = 32 := fun x hx => by
    have : nE x ∈ l.map nE := by rw [h]; exact List.mem_map_of_mem hx
    obtain ⟨y, hy, hyx⟩ := List.mem_map.1 this
    rw [← show (nE y).id = x.id by rw [hyx]; rfl]; exact (h32 y hy).1
  refine enterS F_entrepotkit_SameEvents rfl rfl rfl ?_
  refine sw_fact (fun w H => sl_form (ha w H).sl) ?_
  rintro ⟨A, c, rfl, _, _, _, k4, _⟩
  refine sw_fact (fun w H => sl_form (hb w H).sl) ?_
  rintro ⟨B, c2, rfl, _, _, _, k5, _⟩
  (refine sw_seq ?_; refine sw_region ?_; refine so_1 rfl ?_; refine so_nil ?_; refine sn_then ?_; refine sw_seq ?_; refine sw_region ?_; (iterate 6 refine so_1 rfl ?_); refine so_nil ?_; refine sn_then ?_; (iterate 2 refine sw_seq ?_); refine sw_region ?_; refine so_1 rfl ?_; refine so_nil ?_; refine sn_then ?_; refine sw_block ?_)
  refine sw_know 5 (.bool true) rfl (congrArg Value.bool (decide_eq_true (by omega))) ?_
  refine sw_loop (S := Nat) (fun i => [(0, .slice A l.length c), (1, .slice B m.length c2), (5, .bool true), (6, .int .i64 (i : Int))]) (fun _ => F) (fun i => i ≤ l.length) (fun i => l.length - i) 0 ⟨rfl, rfl, rfl, rfl, trivial⟩ (Ent.refl _) (Nat.zero_le _) ?_
  intro i hi
  ((iterate 2 refine sw_seq ?_); refine sw_region ?_; (iterate 7 refine so_1 rfl ?_); refine so_nil ?_; refine sn_then ?_)
  refine sw_if rfl (fun h1 => ?_) (fun h1 => ?_)
  · have h1' : i < l.length := by omega
    have h2' : i < m.length := by omega
    obtain ⟨g1, o1, rfl⟩ := k4 (by omega)
    obtain ⟨g2, o2, rfl⟩ := k5 (by omega)
    have hxy : nE l[i] = nE m[i] := by
      have := congrArg (·[i]?) h
      simpa [h1', h2'] using this
    have hc1 : ∀ w, Sat b F w → ∀ j, j < 39 → w.cell? ⟨g1, o1 + i * 39 + j, none⟩ = (evC l[i])[j]? := fun w H j hj => ev_cell (ha w H) hA32 h1' hj
    have hc2 : ∀ w, Sat b F w → ∀ j, j < 39 → w.cell? ⟨g2, o2 + i * 39 + j, none⟩ = (evC m[i])[j]? := fun w H j hj => ev_cell (hb w H) hB32 h2' hj
    have he1 : ∀ w, Sat b F w → ER w l[i] := fun w H => (ha w H).er _ (List.getElem_mem h1')
    have he2 : ∀ w, Sat b F w → ER w m[i] := fun w H => (hb w H).er _ (List.getElem_mem h2')
    obtain ⟨x32, xr, xn⟩ := h32 _ (List.getElem_mem h1')
    have y32 := hB32 _ (List.getElem_mem h2')
    generalize l[i] = x at *
    generalize m[i] = y at *
    have xl := evC_len x32
    have yl := evC_len y32
    (refine sw_skip ?_; refine sn_then ?_; refine sw_seq ?_; refine sw_block ?_)
    refine sw_draw flo F (by decide +kernel) (Ent.refl _) ?_
    ((iterate 2 refine sd_1 rfl (.inl rfl) ?_); refine sd_2 rfl rfl (by omega) ?_)
    refine sd_rd rfl (fun w H => ex_loadN (cs := evC x) rfl rfl rfl xl (fun j hj => by rw [mulz_eq, Int.toNat_natCast]; exact hc1 w H j (by rw [xl] at hj; exact hj))) rfl rfl ?_
    ((iterate 2 refine sd_1 rfl (.inl rfl) ?_); refine sd_2 rfl rfl (by omega) ?_)
    refine sd_rd rfl (fun w H => ex_loadN (cs := evC y) rfl rfl rfl yl (fun j hj => by rw [mulz_eq, Int.toNat_natCast]; exact hc2 w H j (by rw [yl] at hj; exact hj))) rfl rfl ?_
    refine sd_callE rfl rfl rfl rfl ((SameEvent_S hxy he1 he2 x32 xr xn)) (Ent.refl _) ?_
    (refine sd_1 rfl (.inl rfl) ?_)
    refine sd_nil ?_
    (refine sn_block ?_; refine sn_then ?_; refine sw_region ?_; refine so_1 rfl ?_; refine so_2 rfl (by (unfold I64; omega)) ?_; refine so_1 rfl ?_; refine so_nil ?_)
    rw [show (i : Int) + 1 = ((i + 1 : Nat) : Int) by omega]
    exact sn_round (i + 1) ⟨rfl, rfl, rfl, rfl, trivial⟩ (Ent.refl _) h1' (by omega)
  · (refine sw_exit ?_; refine sn_then_exit ?_; refine sn_loop_exit ?_; refine sn_block_exit ?_; refine sn_then ?_; refine sw_seq ?_; refine sw_region ?_; (iterate 2 refine so_1 rfl ?_); refine so_nil ?_; refine sn_then ?_; refine sw_ret ?_)
    refine sn_ret rfl (.tmp rfl .nil) (Ent.refl _) ?_
    exact ⟨rfl, rfl⟩
end
end Go.Proofs.Ytajbpdmhpcpkgaa
/- Who has what, part twenty-one: both matrices hold the same; calls; long. Conditions: none. -/
namespace Go.Proofs.Ytajbpdmhpcpkgaa
open Go Go.Eng Go.RowKit Go.WideMaps

structure EvG (e : Ev) : Prop where
  m : EvM e
  r32 : len32 e.refs
  dk : dotOk (dotE e)
theorem EvG.nE {e f : Ev} (h : EvG e) (hf : nE f = nE e) : EvG f := by
  obtain ⟨dv, rv, rfl⟩ := nE_eq hf.symm
  exact ⟨h.m.nE hf, h.r32, h.dk⟩
theorem EvG.o {e : Ev} (h : EvG e) : e.id.length = 32 ∧ len32 e.refs ∧ e.refs.length ≤ 1000000 := ⟨h.m.l32, h.r32, h.m.rn⟩
theorem EvG.p {e : Ev} (h : EvG e) : e.id.length = 32 ∧ len32 e.refs := ⟨h.m.l32, h.r32⟩
theorem EvG.q {e : Ev} (h : EvG e) : e.deps.length ≤ 1000000 ∧ e.refs.length ≤ 1000000 := ⟨h.m.dn, h.m.rn⟩
theorem evG_sub {l D : List Ev} (h : ∀ e ∈ l, EvG e) (hD : ∀ y ∈ D.map nE, y ∈ l.map nE) : ∀ e ∈ D, EvG e := fun e he => by
  obtain ⟨f, hf, hfe⟩ := List.mem_map.1 (hD _ (List.mem_map.2 ⟨e, he, rfl⟩))
  exact (h f hf).nE hfe.symm
theorem evG_map {l D : List Ev} (h : ∀ e ∈ l, EvG e) (hD : D.map nE = l.map nE) : ∀ e ∈ D, EvG e := evG_sub h fun y hy => by rw [hD] at hy; exact hy
theorem dots_nE (L : List Ev) : (L.map nE).map dotE = L.map dotE := by rw [List.map_map]; rfl
theorem evLt_tri {x y : Ev} (h : evLt y x = false) (hd : dotE x ≠ dotE y) : evLt x y = true := by
  unfold evLt lessL at *
  have a := of_decide_eq_false h
  have c : ¬ (x.r = y.r ∧ x.n = y.n) := fun q => hd (Prod.ext q.1 q.2)
  exact decide_eq_true (by omega)
theorem lt_of_sort {l S : List Ev} (h : IsSort l S) (hd : (l.map dotE).Nodup) : S.Pairwise fun x y => evLt x y = true := by
  have h1 : (S.map dotE).Nodup := (h.perm.map dotE).nodup_iff.2 hd
  rw [List.Nodup, List.pairwise_map] at h1
  exact (h.asc.and h1).imp fun {x y} q => evLt_tri q.1 q.2
/-- Both matrices hold the same. -/
structure StI (R : List (List Int)) (K L : List Ev) : Prop where
  ok : RowsOk R
  g : ∀ e ∈ K, EvG e
  nd : (K.map dotE).Nodup
  srt : (L.map nE).Pairwise fun x y => evLt x y = true
  prm : (L.map nE).Perm (K.map nE)
section
variable {R : List (List Int)} {K L : List Ev}
theorem StI.len (h : StI R K L) : L.length = K.length := by have := h.prm.length_eq; simpa using this
theorem StI.gL (h : StI R K L) : ∀ e ∈ L, EvG e := evG_sub h.g fun y hy => h.prm.mem_iff.1 hy
theorem StI.ndL (h : StI R K L) : (L.map dotE).Nodup := by
  have := (h.prm.map dotE).nodup_iff
  rw [dots_nE, dots_nE] at this
  exact this.2 h.nd
theorem StI.mK (h : StI R K L) : ∀ e ∈ K, EvM e := fun e he => (h.g e he).m
theorem StI.dk (h : StI R K L) : ∀ e ∈ K, dotOk (dotE e) := fun e he => (h.g e he).dk
theorem findE_map (K : List Ev) (d : Int × Int) : findE (K.map nE) d = (findE K d).map nE := by
  induction K with
  | nil => rfl
  | cons e K ih =>
    simp only [findE, List.map_cons, List.find?_cons] at *
    by_cases h : dotE e = d
    · have h2 : dotE (nE e) = d := h
      rw [decide_eq_true h, decide_eq_true h2]; rfl
    · have h2 : ¬ dotE (nE e) = d := h
      rw [decide_eq_false h, decide_eq_false h2]; exact ih
theorem findE_mem {e : Ev} : ∀ {K : List Ev}, (K.map dotE).Nodup → e ∈ K → findE K (dotE e) = some e
  | [], _, he => by cases he
  | f :: K, hn, he => by
    rw [List.map_cons, List.nodup_cons] at hn
    simp only [findE, List.find?_cons]
    rcases List.mem_cons.1 he with rfl | he
    · rw [decide_eq_true rfl]
    · have hd : ¬ dotE f = dotE e := fun q => hn.1 (by rw [q]; exact List.mem_map_of_mem he)
      rw [decide_eq_false hd]
      exact findE_mem hn.2 he
theorem findE_perm {K L : List Ev} (hp : L.Perm K) (hn : (K.map dotE).Nodup) (d : Int × Int) : findE L d = findE K d := by
  have hnL : (L.map dotE).Nodup := (hp.map dotE).nodup_iff.2 hn
  cases hf : findE L d with
  | none =>
    cases hg : findE K d with
    | none => rfl
    | some e =>
      obtain ⟨h1, h2⟩ := findE_some hg
      exact absurd h2 (findE_none hf e (hp.mem_iff.2 h1))
  | some e =>
    obtain ⟨h1, rfl⟩ := findE_some hf
    rw [findE_mem hn (hp.mem_iff.1 h1)]
theorem StI.find (h : StI R K L) (d : Int × Int) : (findE L d).map nE = (findE K d).map nE := by
  rw [← findE_map, ← findE_map]
  exact findE_perm h.prm (by rw [dots_nE]; exact h.nd) d
theorem StI.is (h : StI R K L) (d : Int × Int) : (findE L d).isSome = (findE K d).isSome := by
  have := congrArg Option.isSome (h.find d)
  rwa [Option.isSome_map, Option.isSome_map] at this
theorem StI.keep (h : StI R K L) (own : Int) (e : Ev) : keepB own R L e = keepB own R K e := by
  unfold keepB
  rw [h.is]
theorem keepB_new {own : Int} {e : Ev} (h : (keepB own R K e).2 = true) : findE K (dotE e) = none := by
  unfold keepB at h
  split at h
  · cases h
  split at h
  · cases h
  split at h
  · cases h
  · rename_i _ _ h3
    cases hf : findE K (dotE e) with
    | none => rfl
    | some f => rw [hf] at h3; simp at h3
theorem nd_snoc {K : List Ev} {y e : Ev} (hn : (K.map dotE).Nodup) (hy : nE y = nE e) (hf : findE K (dotE e) = none) : ((K ++ [y]).map dotE).Nodup := by
  have hd : dotE y = dotE e := show dotE (nE y) = dotE (nE e) by rw [hy]
  rw [List.map_append, List.nodup_append]
  refine ⟨hn, by simp, fun a ha c hc => ?_⟩
  obtain ⟨f, hf1, rfl⟩ := List.mem_map.1 ha
  rw [List.map_singleton, List.mem_singleton] at hc
  subst hc
  rw [hd]
  exact findE_none hf f hf1
theorem StI.kept (h : StI R K L) {e y : Ev} {D : List Ev} (he : EvG e) (hf : findE K (dotE e) = none) (hy : nE y = nE e) (hD : IsSort (L.map nE ++ [nE e]) (D.map nE)) : StI R (K ++ [y]) D := by
  have hn := nd_snoc h.nd hy hf
  have hp : (L.map nE ++ [nE e]).Perm ((K ++ [y]).map nE) := by
    rw [List.map_append, List.map_singleton, hy]
    exact h.prm.append_right _
  refine ⟨h.ok, fun f hf => ?_, hn, lt_of_sort hD ?_, hD.perm.trans hp⟩
  · rcases List.mem_append.1 hf with hf | hf
    · exact h.g f hf
    · rw [List.mem_singleton.1 hf]; exact he.nE hy
  · rw [(hp.map dotE).nodup_iff, dots_nE]; exact hn
theorem flt_nE (p : Ev → Bool) (hp : ∀ e, p (nE e) = p e) (L : List Ev) : (L.filter p).map nE = (L.map nE).filter p := by
  rw [List.filter_map]
  congr 1
  exact List.filter_congr fun e _ => (hp e).symm
theorem StI.rest (h : StI R K L) {p : Ev → Bool} (hp : ∀ e, p (nE e) = p e) {K' : List Ev} (hK : K'.map nE = (L.map nE).filter p) : StI R K' (L.filter p) := by
  have h1 : (L.filter p).map nE = K'.map nE := by rw [hK]; exact flt_nE p hp L
  have hs : (K'.map nE).Sublist (L.map nE) := by rw [hK]; exact List.filter_sublist
  refine ⟨h.ok, evG_sub h.gL fun y hy => hs.mem hy, ?_, ?_, by rw [h1]⟩
  · rw [← dots_nE]
    have := h.ndL
    rw [← dots_nE] at this
    exact this.sublist (hs.map dotE)
  · rw [h1]; exact h.srt.sublist hs
theorem StI.rows (h : StI R K L) {R' : List (List Int)} (hR : RowsOk R') : StI R' K L := ⟨hR, h.g, h.nd, h.srt, h.prm⟩
theorem StI.none (hR : RowsOk R) : StI R [] [] := ⟨hR, (fun e he => by cases he), List.nodup_nil, List.Pairwise.nil, .refl _⟩
theorem ldErr_nd {r0 : List Int} : ∀ (l seen : List Ev), ldErr R r0 seen l = 0 → (seen.map dotE).Nodup → ((seen ++ l).map dotE).Nodup
  | [], seen, _, h => by rwa [List.append_nil]
  | x :: l, seen, he, h => by
    rw [ldErr] at he
    split at he
    · rename_i h0
      have hf : findE seen (dotE x) = none := by
        cases hf : findE seen (dotE x) with
        | none => rfl
        | some f =>
          unfold evErr at h0
          rw [hf] at h0
          split at h0
          · cases h0
          split at h0
          · cases h0
          · cases h0
      have := ldErr_nd l (seen ++ [x]) he (nd_snoc h rfl hf)
      rwa [List.append_assoc] at this
    · contradiction
theorem loadErr_ok {own : Int} {l : List Ev} (h : loadErr own R l = 0) : newB R.length own = true ∧ RowsOk R ∧ (l.map dotE).Nodup := by
  unfold loadErr at h
  split at h
  · cases h
  rename_i h1
  split at h
  · cases h
  rename_i h2
  have h1' : newB R.length own = true := by simpa using h1
  have h2' : R.all (numB R.length) = true := by simpa using h2
  obtain ⟨a1, a2, _, _⟩ := newB_iff.1 h1'
  exact ⟨h1', rowsOk_of a1 a2 h2', by simpa using ldErr_nd l [] h List.nodup_nil⟩
theorem StI.load {own : Int} {l K D : List Ev} (h : loadErr own R l = 0) (hg : ∀ e ∈ l, EvG e) (hK : K.map nE = l.map nE) (hD : IsSort (l.map nE) (D.map nE)) : StI R K D := by
  obtain ⟨_, h2, h3⟩ := loadErr_ok h
  refine ⟨h2, evG_map hg hK, ?_, lt_of_sort hD (by rw [dots_nE]; exact h3), by rw [hK]; exact hD.perm⟩
  rw [← dots_nE, hK, dots_nE]; exact h3
end
/-- A call. -/
structure Ac where
  k : Int
  r : Int
  m : Int
  v : Value
  xs : List Int
  e : Ev
def acC (a : Ac) : List Value := .int .i64 a.k :: .int .i64 a.r :: .int .i64 a.m :: a.v :: evC a.e
theorem acC_len {a : Ac} (h : a.e.id.length = 32) : (acC a).length = 43 := by
  show (evC a.e).length + 4 = 43
  rw [evC_len h]
theorem acC_ev {a : Ac} {j : Nat} : (acC a)[4 + j]? = (evC a.e)[j]? := by
  rw [Nat.add_comm]; rfl
structure LAs (W : World) (v : Value) (l : List Ac) : Prop where
  sl : SL W 43 v l.length (flC acC l)
  vl : ∀ a ∈ l, VL (Value.int .i64) W a.v a.xs
  er : ∀ a ∈ l, ER W a.e
theorem LAs.ext {w w' : World} {v : Value} {l : List Ac} (h : LAs w v l) (x : Ext w w') : LAs w' v l := ⟨h.sl.ext x, fun m hm => (h.vl m hm).ext x, fun m hm => (h.er m hm).ext x⟩
def AcOk (a : Ac) : Prop := a.xs.length ≤ 20 ∧ LE a.e
section
variable {b : World} {F : List SP} {va : Value} {L : List Ac}
theorem ac_cell {w : World} {bk off c i j : Nat} (h : LAs w (.slice (some ⟨bk, off, none⟩) L.length c) L) (h32 : ∀ a ∈ L, a.e.id.length = 32) (hi : i < L.length) (hj : j < 43) : w.cell? ⟨bk, off + i * 43 + j, none⟩ = (acC L[i])[j]? := fl_cell h.sl (fun a ha => acC_len (h32 a ha)) hi hj
set_option maxRecDepth 20000 in
set_option maxHeartbeats 2000000 in
theorem long_S (hl : ∀ w, Sat b F w → LAs w va L) (h32 : ∀ a ∈ L, a.e.id.length = 32) : SC Try.prog n_entrepotlaw24_long [va] b F
    (fun v F' => ∃ r : Bool, (r = false → L.length ≤ 30 ∧ ∀ a ∈ L, AcOk a) ∧ v = .bool r ∧ F' = F) := by
  refine enterS F_entrepotlaw24_long rfl rfl rfl ?_
  refine sw_fact (fun w H => sl_form (hl w H).sl) ?_
  rintro ⟨A0, c0, rfl, q1, q2, q3, q4, _⟩
  (refine sw_seq ?_; refine sw_region ?_; refine so_1 rfl ?_; refine so_nil ?_; refine sn_then ?_; (iterate 2 refine sw_seq ?_); refine sw_region ?_; refine so_1 rfl ?_; refine so_nil ?_; refine sn_then ?_; refine sw_block ?_)
  refine sw_loop (S := Nat) (fun i => [(0, .slice A0 L.length c0), (3, .int .i64 (i : Int))]) (fun _ => F) (fun i => i ≤ L.length ∧ i ≤ 31 ∧ ∀ a ∈ L.take i, AcOk a) (fun i => L.length - i) 0
    ⟨rfl, rfl, trivial⟩ (Ent.refl _) ⟨Nat.zero_le _, Nat.zero_le _, by simp⟩ ?_
  rintro i ⟨hi, hi31, hP⟩
  ((iterate 2 refine sw_seq ?_); refine sw_region ?_; (iterate 5 refine so_1 rfl ?_))
  have fin : ∀ r : Bool, (r = false → L.length ≤ 30 ∧ ∀ a ∈ L, AcOk a) → ∃ r' : Bool, (r' = false → L.length ≤ 30 ∧ ∀ a ∈ L, AcOk a) ∧ Value.bool r = .bool r' ∧ F = F := fun r h => ⟨r, h, rfl, rfl⟩
  by_cases h1 : (i : Int) < L.length
  · have h1' : i < L.length := by omega
    refine so_know 8 (.bool true) rfl (congrArg Value.bool (decide_eq_true h1)) ?_
    ((iterate 3 refine so_1 rfl ?_); refine so_nil ?_; refine sn_then ?_)
    refine sw_if rfl (fun h2 => ?_) (fun h2 => ?_)
    · obtain ⟨gg, oo, rfl⟩ := q4 (by omega)
      have hmem := List.getElem_mem h1'
      have hc : ∀ w, Sat b F w → ∀ j, j < 43 → w.cell? ⟨gg, oo + i * 43 + j, none⟩ = (acC L[i])[j]? := fun w H j hj => ac_cell (hl w H) h32 h1' hj
      have hvl : ∀ w, Sat b F w → VL (Value.int .i64) w L[i].v L[i].xs := fun w H => (hl w H).vl _ hmem
      have her : ∀ w, Sat b F w → ER w L[i].e := fun w H => (hl w H).er _ hmem
      have hx32 := h32 _ hmem
      have htk : L.take (i + 1) = L.take i ++ [L[i]] := List.take_succ_eq_append_getElem h1'
      generalize L[i] = a at *
      have xl := evC_len hx32
      (refine sw_skip ?_; refine sn_then ?_; refine sw_seq ?_; refine sw_block ?_; refine sw_seq ?_; refine sw_region ?_; (iterate 2 refine so_1 rfl ?_); refine so_2 rfl (by omega) ?_; refine so_1 rfl ?_)
      refine so_rd rfl (fun w H => ex_load rfl rfl rfl (by rw [mulz_eq, Int.toNat_natCast]; exact hc w H 3 (by decide))) rfl ?_
      refine so_fact (fun w H => (hvl w H).form) ?_
      rintro ⟨A7, c7, hv, _, _, _, _⟩
      rw [hv]
      ((iterate 3 refine so_1 rfl ?_))
      by_cases h3 : (20 : Int) < a.xs.length
      · refine so_know 21 (.bool true) rfl (congrArg Value.bool (decide_eq_true h3)) ?_
        ((iterate 17 refine so_1 rfl ?_); refine so_nil ?_; refine sn_then ?_; refine sw_cond_t rfl ?_; refine sw_seq ?_; refine sw_region ?_; refine so_1 rfl ?_; refine so_nil ?_; refine sn_then ?_; refine sw_ret ?_; refine sn_block_ret ?_; refine sn_then_ret ?_; refine sn_loop_ret ?_; refine sn_block_ret ?_; refine sn_then_ret ?_)
        refine sn_ret rfl (.tmp rfl .nil) (Ent.refl _) ?_
        exact fin true (fun h => by cases h)
      refine so_know 21 (.bool false) rfl (congrArg Value.bool (decide_eq_false h3)) ?_
      ((iterate 2 refine so_1 rfl ?_); refine so_2 rfl (by omega) ?_; refine so_1 rfl ?_)
      refine so_rd rfl (fun w H => ex_loadN (cs := evC a.e) rfl rfl rfl xl (fun j hj => by rw [mulz_eq, Int.toNat_natCast, Nat.add_assoc, Nat.add_assoc]; rw [xl] at hj; exact (by have := hc w H (4 + j) (by omega); rw [Nat.add_assoc] at this; exact this.trans acC_ev))) rfl ?_
      refine so_call rfl rfl rfl (LongEvent_S hx32 her) ?_
      rintro _ _ ⟨q, hq, rfl, rfl⟩
      cases q with
      | true =>
        ((iterate 11 refine so_1 rfl ?_); refine so_nil ?_; refine sn_then ?_; refine sw_cond_t rfl ?_; refine sw_seq ?_; refine sw_region ?_; refine so_1 rfl ?_; refine so_nil ?_; refine sn_then ?_; refine sw_ret ?_; refine sn_block_ret ?_; refine sn_then_ret ?_; refine sn_loop_ret ?_; refine sn_block_ret ?_; refine sn_then_ret ?_)
        refine sn_ret rfl (.tmp rfl .nil) (Ent.refl _) ?_
        exact fin true (fun h => by cases h)
      | false =>
      have hle : LE a.e := hq rfl
      ((iterate 4 refine so_1 rfl ?_); refine so_2 rfl (by omega) ?_; (iterate 2 refine so_1 rfl ?_))
      refine so_rd rfl (fun w H => ex_load rfl rfl rfl (by rw [mulz_eq, Int.toNat_natCast, Nat.add_assoc, Nat.add_assoc]; exact (by have := hc w H (4 + 38) (by omega); rw [Nat.add_assoc] at this; exact this.trans (acC_ev.trans (by rw [← nth_eq]; exact evC_rv hx32))))) rfl ?_
      refine so_fact (fun w H => sl_form (her w H).rv) ?_
      rintro ⟨A8, c8, hv8, _, _, _, _, _⟩
      rw [hv8]
      ((iterate 3 refine so_1 rfl ?_); refine so_nil ?_; refine sn_then ?_)
      refine sw_if rfl (fun h4 => ?_) (fun h4 => ?_)
      · (refine sw_seq ?_; refine sw_region ?_; refine so_1 rfl ?_; refine so_nil ?_; refine sn_then ?_; refine sw_ret ?_; refine sn_block_ret ?_; refine sn_then_ret ?_; refine sn_loop_ret ?_; refine sn_block_ret ?_; refine sn_then_ret ?_)
        refine sn_ret rfl (.tmp rfl .nil) (Ent.refl _) ?_
        exact fin true (fun h => by cases h)
      (refine sw_skip ?_; refine sn_block ?_; refine sn_then ?_; refine sw_region ?_; refine so_1 rfl ?_; refine so_2 rfl (by (unfold I64; omega)) ?_; refine so_1 rfl ?_; refine so_nil ?_)
      rw [show (i : Int) + 1 = ((i + 1 : Nat) : Int) by omega]
      refine sn_round (i + 1) ⟨rfl, rfl, trivial⟩ (Ent.refl _) ⟨h1', by omega, fun z hz => ?_⟩ (by omega)
      rw [htk] at hz
      rcases List.mem_append.1 hz with hz | hz
      · exact hP z hz
      · rw [List.mem_singleton.1 hz]; exact ⟨by omega, hle⟩
    · (refine sw_exit ?_; refine sn_then_exit ?_; refine sn_loop_exit ?_; refine sn_block_exit ?_; refine sn_then ?_; refine sw_seq ?_; refine sw_region ?_; (iterate 4 refine so_1 rfl ?_); refine so_nil ?_; refine sn_then ?_; refine sw_ret ?_)
      refine sn_ret rfl (.tmp rfl .nil) (Ent.refl _) ?_
      exact fin _ (fun h => absurd (of_decide_eq_false h) (by omega))
  · obtain rfl : i = L.length := by omega
    refine so_know 8 (.bool false) rfl (congrArg Value.bool (decide_eq_false h1)) ?_
    rw [List.take_length] at hP
    ((iterate 3 refine so_1 rfl ?_); refine so_nil ?_; refine sn_then ?_; refine sw_cond_f rfl ?_; refine sw_exit ?_; refine sn_then_exit ?_; refine sn_loop_exit ?_; refine sn_block_exit ?_; refine sn_then ?_; refine sw_seq ?_; refine sw_region ?_; (iterate 4 refine so_1 rfl ?_); refine so_nil ?_; refine sn_then ?_; refine sw_ret ?_)
    refine sn_ret rfl (.tmp rfl .nil) (Ent.refl _) ?_
    exact fin _ (fun h => ⟨by have := of_decide_eq_false h; omega, hP⟩)
end
end Go.Proofs.Ytajbpdmhpcpkgaa
/- Who has what, part twenty-two: both matrices answer the same to all calls. Conditions: not too many. -/
namespace Go.Proofs.Ytajbpdmhpcpkgaa
open Go Go.Eng Go.RowKit Go.WideMaps

theorem AcOk.g {a : Ac} (h : AcOk a) (hw : EW a.e) : EvG a.e := ⟨⟨hw.l32, by have := h.2.1; omega, by have := h.2.2.1; omega⟩, hw.r32, hw.dot⟩
theorem seenT_len (R : List (List Int)) (r : Int) (v : List Int) : (seenT R r v).2.length = R.length := by
  unfold seenT
  split
  · rfl
  split
  · rfl
  · exact List.length_set
theorem giveT_sub (R : List (List Int)) (S : List Ev) (r : Int) (ask : List Int) (most : Int) : List.Sublist (giveT R S r ask most).1 S := by
  unfold giveT
  split
  · exact List.nil_sublist _
  split
  · exact List.nil_sublist _
  · exact (List.take_sublist _ _).trans List.filter_sublist
section
variable {b : World} {F : List SP} {va : Value} {LA : List Ac} {g gr gm h n cr : Nat} {own : Int} {Ar : Option Addr}
end
end Go.Proofs.Ytajbpdmhpcpkgaa
