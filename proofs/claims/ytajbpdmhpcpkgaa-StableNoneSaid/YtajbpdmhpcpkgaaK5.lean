/- Queues, part one: dots as keys of maps; how what is held lies in memory. Conditions: none. -/
import Derived.Test.YtajbpdmhpcpkgaaK4
import Derived.Test.YtajbpdmhpcpkgaaK3
import Derived.Test.YtajbpdmhpcpkgaaK2
namespace Go.Proofs.Ytajbpdmhpcpkgaa
open Go.Eng Go.RowKit Go.WideMaps

theorem dotU : Try.prog.underlying t_api_Dot = some (.struct ⟨[⟨ "R", t_int, 0, false, "", "", 0⟩, ⟨ "N", t_int, 1, false, "", "", 8⟩]⟩) := by kernel_rfl
theorem dotMK : MK Try.prog t_api_Dot (fun p : Int × Int => dotV p.1 p.2) (fun p => (Lit.int .i64 p.1).wf = true ∧ (Lit.int .i64 p.2).wf = true) where
  law := deep_law (m := 2) (by omega) (by kernel_rfl) (by kernel_rfl) (by rw [dotU])
  of := fun p hp => by
    have hkt : Try.prog.keyType t_api_Dot = true := by kernel_rfl
    have hsz : Try.prog.cellsOf t_api_Dot = 2 := by kernel_rfl
    have hci : Try.prog.cellsOf t_int = 1 := by kernel_rfl
    have hui : Try.prog.underlying t_int = some (.int .i64) := by kernel_rfl
    obtain ⟨m, hm⟩ : ∃ m, Try.prog.types.size = m + 1 := ⟨_, (by kernel_rfl : Try.prog.types.size = (Try.prog.types.size - 1) + 1)⟩
    unfold keyOf
    simp only [dotU]
    rw [if_pos (by simp [hkt, Value.formed, dotU, hsz, dotV]), hm]
    unfold Program.keyLits
    simp only [dotU, Value.cells, dotV]
    rw [if_pos (by simp [hsz])]
    simp [hci, Program.keyLits, hui, hp.1, hp.2]
  inj := fun a c _ _ h => by
    simp only [dotV, Value.agg.injEq, Array.mk.injEq, List.cons.injEq, Value.int.injEq, true_and, and_true] at h
    exact Prod.ext h.1 h.2

/-- An event; what is held. -/
structure Ev where
  r : Int
  n : Int
  dv : Value
  deps : List Int
  kind : Int
  repo : ByteArray
  tag : ByteArray
  id : List Int
  rv : Value
  refs : List (List Int)
structure Wn where
  g : Nat
  e : Ev
  src : Int
def evC (e : Ev) : List Value := .int .i64 e.r :: .int .i64 e.n :: e.dv :: .int .i64 e.kind :: .string e.repo :: .string e.tag :: (u8s e.id ++ [e.rv])
abbrev evV (e : Ev) : Value := .agg ⟨evC e⟩
def wsC (e : Ev) (src : Int) : List Value := evC e ++ [.int .i64 src]
abbrev waC (w : Wn) : List Value := wsC w.e w.src
abbrev ints (l : List Int) : List Value := l.map (Value.int .i64)
abbrev rZ (v : Value) (l : List Int) : SP := row t_int 1 v l.length (ints l)
abbrev rD (v : Value) (l : List (List Int)) : SP := row t_api_ID 32 v l.length (idsC l)
abbrev ptrs (l : List Wn) : List Value := l.map fun w => .pointer (some ⟨w.g, 0, none⟩)
abbrev dotOk (p : Int × Int) : Prop := (Lit.int .i64 p.1).wf = true ∧ (Lit.int .i64 p.2).wf = true
abbrev dotP (p : Int × Int) : Value := dotV p.1 p.2
def wM : List Wn → List ((Int × Int) × Value)
  | [] => []
  | w :: l => ((w.e.r, w.e.n), .pointer (some ⟨w.g, 0, none⟩)) :: wM l
abbrev mpH (gm : Nat) (H : List Wn) : SP := mp gm dotP dotOk (wM H)
section
variable {b : World} {F : List SP} {gq gm : Nat} {v h : Value} {V : List Int} {R H : List Wn}
end
end Go.Proofs.Ytajbpdmhpcpkgaa
/- Queues, part two: copies; numbers; what fits. Conditions: not too many. -/
namespace Go.Proofs.Ytajbpdmhpcpkgaa
open Go.Eng Go.RowKit Go.WideMaps

theorem ints_len (l : List Int) : (ints l).length = l.length := by simp
theorem vlZ {b : World} {F : List SP} {v : Value} {l : List Int} {k : Nat} (hk : nth F k = some (rZ v l)) : ∀ w, Sat b F w → VL (Value.int .i64) w v l := fun w H => by
  have := (H.oat hk).sl
  exact this
section
variable {b : World} {F : List SP} {va : Value}
theorem Clone_ints {xs : List Int} (ha : ∀ w, Sat b F w → VL (Value.int .i64) w va xs) (hn : xs.length ≤ 1000000) : SC Try.prog n_slices_Clone_sl_int_int [va] b F (fun v F' => F' = rZ v xs :: F) := by
  refine enterS F_slices_Clone_sl_int_int rfl rfl rfl ?_
  refine sw_fact (fun w H => (ha w H).form) ?_
  rintro ⟨A, c, rfl, h1, h2, h3, h4⟩
  cases A with
  | none =>
    have hc := h3 rfl
    have hx : xs = [] := List.length_eq_zero_iff.1 (by omega)
    subst hx
    (refine sw_seq ?_; refine sw_region ?_; refine so_1 rfl ?_; refine so_nil ?_; refine sn_then ?_; (iterate 2 refine sw_seq ?_); refine sw_region ?_; (iterate 2 refine so_1 rfl ?_); refine so_nil ?_; refine sn_then ?_; refine sw_cond_t rfl ?_; refine sw_seq ?_; refine sw_region ?_; refine so_1 rfl ?_; refine so_nil ?_; refine sn_then ?_; refine sw_ret ?_; refine sn_then_ret ?_)
    refine sn_ret rfl (.tmp rfl .nil) (ent_row_nil t_int 1 rfl) ?_
    rfl
  | some a =>
    (refine sw_seq ?_; refine sw_region ?_; refine so_1 rfl ?_; refine so_nil ?_; refine sn_then ?_; (iterate 2 refine sw_seq ?_); refine sw_region ?_; (iterate 2 refine so_1 rfl ?_); refine so_nil ?_; refine sn_then ?_; refine sw_cond_f rfl ?_; refine sw_skip ?_; refine sn_then ?_; refine sw_seq ?_; refine sw_region ?_)
    refine so_lit [] rfl rfl rfl rfl rfl rfl rfl rfl rfl fun g0 => ?_
    refine so_ent (ent_blk_row (n := 0) (sz := 1) rfl rfl (by decide) 0 rfl rfl) ?_
    (refine so_1 rfl ?_)
    refine so_append 0 rfl rfl rfl rfl rfl rfl rfl rfl rfl (up ha (ent_keep 1 [] rfl rfl)) ints_one (by omega) (fun _ => rfl) fun v6 => ?_
    (refine so_1 rfl ?_; refine so_nil ?_; refine sn_then ?_; refine sw_ret ?_)
    refine sn_ret rfl (.tmp rfl .nil) (Ent.refl _) ?_
    show row t_int 1 v6 _ _ :: F = rZ v6 xs :: F
    simp [rZ, ints]
def numOk (V : List Int) : Prop := ∀ x ∈ V, 0 ≤ x ∧ x ≤ 1048576
instance (V : List Int) : Decidable (numOk V) := by unfold numOk; infer_instance
end
end Go.Proofs.Ytajbpdmhpcpkgaa
/- Queues, part three: copies of digests and of pointers; an event of its own. Conditions: not too many. -/
namespace Go.Proofs.Ytajbpdmhpcpkgaa
open Go.Eng Go.RowKit Go.WideMaps

theorem evC_len {e : Ev} (h : e.id.length = 32) : (evC e).length = 39 := by simp [evC, h]
theorem wsC_len {e : Ev} {s : Int} (h : e.id.length = 32) : (wsC e s).length = 40 := by simp [wsC, evC_len h]
theorem evC_rv {e : Ev} (h : e.id.length = 32) : nth (evC e) 38 = some e.rv := by
  rw [nth_eq]; simp only [evC, List.getElem?_cons_succ]
  rw [List.getElem?_append_right (by simp [h]), u8s_len, h]; rfl
theorem wsC_rv {e : Ev} {s : Int} (h : e.id.length = 32) : nth (wsC e s) 38 = some e.rv := by
  rw [nth_eq, wsC, List.getElem?_append_left (by rw [evC_len h]; omega), ← nth_eq]; exact evC_rv h
theorem wsC_src {e : Ev} {s : Int} (h : e.id.length = 32) : nth (wsC e s) 39 = some (.int .i64 s) := by
  rw [nth_eq, wsC, List.getElem?_append_right (by rw [evC_len h]; omega), evC_len h]; rfl
theorem set_at {α : Type} (a : List α) (x y : α) (m : List α) : (a ++ x :: m).set a.length y = a ++ y :: m := by
  induction a with
  | nil => rfl
  | cons c a ih => simp only [List.cons_append, List.length_cons, List.set_cons_succ, ih]
theorem wsC_strv {e : Ev} {s : Int} {v : Value} (h : e.id.length = 32) : stO (wsC e s) 38 v = some (wsC { e with rv := v } s) := by
  refine stO_ok (by rw [wsC_len h]; omega) ?_
  simp only [wsC, evC, List.cons_append, List.append_assoc, List.nil_append, List.set_cons_succ]
  have := set_at (u8s e.id) e.rv v [.int .i64 s]
  rw [u8s_len, h] at this
  rw [this]
theorem wsC_stsrc {e : Ev} {s s' : Int} (h : e.id.length = 32) : stO (wsC e s) 39 (.int .i64 s') = some (wsC e s') := by
  refine stO_ok (by rw [wsC_len h]; omega) ?_
  have := set_at (evC e) (Value.int .i64 s) (.int .i64 s') []
  rw [evC_len h] at this
  exact this
theorem evC_one {e : Ev} (h1 : e.dv.oneCell' = true) (h2 : e.rv.oneCell' = true) : ∀ u ∈ evC e, u.oneCell' = true := by
  intro u hu
  simp only [evC, List.mem_cons, List.mem_append, List.not_mem_nil, or_false] at hu
  rcases hu with rfl | rfl | rfl | rfl | rfl | rfl | hu | rfl <;> first | rfl | assumption | exact u8s_one _ u hu
theorem wsC_one {e : Ev} {s : Int} (h1 : e.dv.oneCell' = true) (h2 : e.rv.oneCell' = true) : ∀ u ∈ wsC e s, u.oneCell' = true := by
  intro u hu
  rcases List.mem_append.1 hu with hu | hu
  · exact evC_one h1 h2 u hu
  · rw [List.mem_singleton.1 hu]; rfl
theorem sl_form {w : World} {sz n : Nat} {v : Value} {cs : List Value} (h : SL w sz v n cs) : ∃ A c, v = .slice A n c ∧ n ≤ c ∧ c ≤ 9223372036854775807 ∧ (A = none → c = 0) ∧ (0 < n → ∃ bk off, A = some ⟨bk, off, none⟩) ∧ cs.length = n * sz := by
  obtain ⟨A, c, h1, h2, h3, h4, h5, h6⟩ := h
  exact ⟨A, c, h1, h3, h4, h5, fun hp => by obtain ⟨bk, off, hA, _⟩ := h6 hp; exact ⟨bk, off, hA⟩, h2⟩
theorem idsC_one (l : List (List Int)) : ∀ u ∈ idsC l, u.oneCell' = true := by
  induction l with
  | nil => intro u hu; simp [idsC] at hu
  | cons a l ih =>
    intro u hu
    rcases List.mem_append.1 hu with hu | hu
    · exact u8s_one _ u hu
    · exact ih u hu
section
variable {b : World} {F : List SP} {va : Value}
theorem Clone_ids {l : List (List Int)} (ha : ∀ w, Sat b F w → SL w 32 va l.length (idsC l)) (hn : l.length ≤ 1000000) : SC Try.prog n_slices_Clone_sl_api_ID_api_ID [va] b F (fun v F' => F' = rD v l :: F) := by
  refine enterS F_slices_Clone_sl_api_ID_api_ID rfl rfl rfl ?_
  refine sw_fact (fun w H => sl_form (ha w H)) ?_
  rintro ⟨A, c, rfl, h1, h2, h3, h4, _⟩
  cases A with
  | none =>
    have hc := h3 rfl
    have hx : l = [] := List.length_eq_zero_iff.1 (by omega)
    subst hx
    (refine sw_seq ?_; refine sw_region ?_; refine so_1 rfl ?_; refine so_nil ?_; refine sn_then ?_; (iterate 2 refine sw_seq ?_); refine sw_region ?_; (iterate 2 refine so_1 rfl ?_); refine so_nil ?_; refine sn_then ?_; refine sw_cond_t rfl ?_; refine sw_seq ?_; refine sw_region ?_; refine so_1 rfl ?_; refine so_nil ?_; refine sn_then ?_; refine sw_ret ?_; refine sn_then_ret ?_)
    refine sn_ret rfl (.tmp rfl .nil) (ent_row_nil t_api_ID 32 rfl) ?_
    rfl
  | some a =>
    (refine sw_seq ?_; refine sw_region ?_; refine so_1 rfl ?_; refine so_nil ?_; refine sn_then ?_; (iterate 2 refine sw_seq ?_); refine sw_region ?_; (iterate 2 refine so_1 rfl ?_); refine so_nil ?_; refine sn_then ?_; refine sw_cond_f rfl ?_; refine sw_skip ?_; refine sn_then ?_; refine sw_seq ?_; refine sw_region ?_)
    refine so_lit0 rfl rfl rfl rfl rfl fun g0 => ?_
    refine so_ent (ent_blk_row (n := 0) (sz := 32) rfl rfl (by decide) 0 rfl rfl) ?_
    (refine so_1 rfl ?_)
    refine so_append 0 rfl rfl rfl rfl rfl rfl rfl rfl rfl (up ha (ent_keep 1 [] rfl rfl)) (idsC_one l) (by omega) (fun _ => rfl) fun v6 => ?_
    (refine so_1 rfl ?_; refine so_nil ?_; refine sn_then ?_; refine sw_ret ?_)
    refine sn_ret rfl (.tmp rfl .nil) (Ent.refl _) ?_
    show row t_api_ID 32 v6 _ _ :: F = rD v6 l :: F
    simp [rD]
theorem ptrs_one {H : List Wn} : ∀ u ∈ ptrs H, u.oneCell' = true := by
  intro u hu; obtain ⟨x, _, rfl⟩ := List.mem_map.1 hu; rfl
end
end Go.Proofs.Ytajbpdmhpcpkgaa
/- Queues, part four: an event of its own; which event stands ahead. Conditions: not too many. -/
namespace Go.Proofs.Ytajbpdmhpcpkgaa
open Go.Eng Go.RowKit Go.WideMaps

/-- The same, with rows of its own. -/
def Ev.own (e : Ev) (dv rv : Value) : Ev := { e with dv := dv, rv := rv }
section
variable {b : World} {F : List SP}
end
end Go.Proofs.Ytajbpdmhpcpkgaa
/- The heap over any kind of element: the plain law of container/heap (printed by heapgen.py). Conditions: 'HLaw': the order is one. -/
namespace Go.Heap

class HOrd (α : Type) where
  lt : α → α → Bool
  d : α
class HLaw (α : Type) [HOrd α] : Prop where
  asym : ∀ x y : α, HOrd.lt x y = true → ¬ HOrd.lt y x = true
  trans : ∀ x y z : α, ¬ HOrd.lt y x = true → ¬ HOrd.lt z y = true → ¬ HOrd.lt z x = true
def swapG {α : Type} [HOrd α] (l : List α) (i j : Nat) : List α := (l.set i (l.getD j HOrd.d)).set j (l.getD i HOrd.d)
def upG {α : Type} [HOrd α] : Nat → List α → Nat → List α
  | 0, l, _ => l
  | k + 1, l, j => if j = 0 then l else if HOrd.lt (l.getD j HOrd.d) (l.getD ((j - 1) / 2) HOrd.d) = true then upG k (swapG l ((j - 1) / 2) j) ((j - 1) / 2) else l
theorem swapG_len {α : Type} [HOrd α] (l : List α) (i j : Nat) : (swapG l i j).length = l.length := by simp [swapG]
theorem upG_fuel {α : Type} [HOrd α] (k : Nat) : ∀ (l : List α) (p : Nat), p < k → upG k l p = upG (p + 1) l p := by
  induction k using Nat.strongRecOn with
  | ind k ih =>
    intro l p hp
    cases k with
    | zero => omega
    | succ k =>
      simp only [upG]
      split
      · rfl
      · split
        · exact (ih k (by omega) _ _ (by omega)).trans (ih p (by omega) _ _ (by omega)).symm
        · rfl
def dnJG {α : Type} [HOrd α] (n : Nat) (l : List α) (i : Nat) : Nat := if 2 * i + 2 < n ∧ HOrd.lt (l.getD (2 * i + 2) HOrd.d) (l.getD (2 * i + 1) HOrd.d) = true then 2 * i + 2 else 2 * i + 1
theorem dnJG_lt {α : Type} [HOrd α] {n : Nat} {l : List α} {i : Nat} (h : ¬ n ≤ 2 * i + 1) : dnJG n l i < n ∧ i < dnJG n l i := by unfold dnJG; split <;> omega
def dnG {α : Type} [HOrd α] : Nat → Nat → List α → Nat → List α
  | 0, _, l, _ => l
  | k + 1, n, l, i => if n ≤ 2 * i + 1 then l else if HOrd.lt (l.getD (dnJG n l i) HOrd.d) (l.getD i HOrd.d) = true then dnG k n (swapG l i (dnJG n l i)) (dnJG n l i) else l
theorem dnG_fuel {α : Type} [HOrd α] (k : Nat) : ∀ (n : Nat) (l : List α) (i : Nat), n - i ≤ k → dnG k n l i = dnG (n - i) n l i := by
  induction k using Nat.strongRecOn with
  | ind k ih =>
    intro n l i hk
    cases k with
    | zero => rw [show n - i = 0 by omega]
    | succ k =>
      rcases Nat.eq_zero_or_pos (n - i) with h0 | h0
      · rw [h0]; simp only [dnG]; rw [if_pos (by omega)]
      · obtain ⟨m, hm⟩ : ∃ m, n - i = m + 1 := ⟨n - i - 1, by omega⟩
        rw [hm]
        simp only [dnG]
        split
        · rfl
        · rename_i h1
          have := dnJG_lt (l := l) h1
          split
          · exact (ih k (by omega) _ _ _ (by omega)).trans (ih m (by omega) _ _ _ (by omega)).symm
          · rfl
theorem upG_len {α : Type} [HOrd α] (k : Nat) : ∀ (l : List α) (j : Nat), (upG k l j).length = l.length := by
  induction k with
  | zero => intro l j; rfl
  | succ k ih => intro l j; simp only [upG]; split; rfl; split; rw [ih, swapG_len]; rfl
theorem dnG_len {α : Type} [HOrd α] (k : Nat) : ∀ (n : Nat) (l : List α) (j : Nat), (dnG k n l j).length = l.length := by
  induction k with
  | zero => intro n l j; rfl
  | succ k ih => intro n l j; simp only [dnG]; split; rfl; split; rw [ih, swapG_len]; rfl
def popG {α : Type} [HOrd α] (l : List α) : List α := dnG (l.length - 1) (l.length - 1) (swapG l 0 (l.length - 1)) 0
theorem popG_len {α : Type} [HOrd α] (l : List α) : (popG l).length = l.length := by rw [popG, dnG_len, swapG_len]
def leG {α : Type} [HOrd α] (x y : α) : Prop := ¬ HOrd.lt y x = true
theorem leG_of {α : Type} [HOrd α] [HLaw α] {x y : α} (h : HOrd.lt x y = true) : leG x y := HLaw.asym _ _ h
theorem leG_trans {α : Type} [HOrd α] [HLaw α] {x y z : α} (h1 : leG x y) (h2 : leG y z) : leG x z := HLaw.trans _ _ _ h1 h2
abbrev atG {α : Type} [HOrd α] (l : List α) (i : Nat) : α := l.getD i HOrd.d
theorem swapG_at {α : Type} [HOrd α] (l : List α) {i j : Nat} (hi : i < l.length) (hj : j < l.length) (k : Nat) : atG (swapG l i j) k = if k = j then atG l i else if k = i then atG l j else atG l k := by
  simp only [atG, swapG, List.getD_eq_getElem?_getD, List.getElem?_set, List.length_set]
  repeat' split
  all_goals first | rfl | omega | simp_all
theorem swapG_perm {α : Type} [HOrd α] {l : List α} {i j : Nat} (hi : i < l.length) (hj : j < l.length) : (swapG l i j).Perm l := by
  have := List.set_set_perm hi hj
  simp only [swapG, List.getD_eq_getElem?_getD, List.getElem?_eq_getElem hi, List.getElem?_eq_getElem hj, Option.getD_some]
  exact this
def hpG {α : Type} [HOrd α] (n : Nat) (l : List α) : Prop := ∀ i, 0 < i → i < n → leG (atG l ((i - 1) / 2)) (atG l i)
def upGI {α : Type} [HOrd α] (l : List α) (j : Nat) : Prop := (∀ i, 0 < i → i < l.length → i ≠ j → leG (atG l ((i - 1) / 2)) (atG l i)) ∧ ∀ c, 0 < c → c < l.length → (c - 1) / 2 = j → 0 < j → leG (atG l ((j - 1) / 2)) (atG l c)
theorem upG_hp {α : Type} [HOrd α] [HLaw α] (k : Nat) : ∀ (l : List α) (j : Nat), j < k → j < l.length → upGI l j → hpG l.length (upG k l j) := by
  induction k with
  | zero => intro l j h; omega
  | succ k ih =>
    intro l j hk hj ⟨h1, h2⟩
    simp only [upG]
    split
    · rename_i h0; intro i a b; exact h1 i a b (by omega)
    · rename_i h0
      have hp : (j - 1) / 2 < j := by omega
      split
      · rename_i hlt
        have sw := swapG_at l (i := (j - 1) / 2) (j := j) (by omega) hj
        have hle := leG_of hlt
        have := ih (swapG l ((j - 1) / 2) j) ((j - 1) / 2) (by omega) (by rw [swapG_len]; omega) ⟨fun i a b c => ?_, fun c a b d e => ?_⟩
        · rwa [swapG_len] at this
        · rw [swapG_len] at b
          rw [sw, sw]
          by_cases e1 : i = j
          · subst e1
            rw [if_neg (by omega), if_pos rfl, if_pos rfl]; exact hle
          · rw [if_neg e1, if_neg c]
            by_cases e2 : (i - 1) / 2 = j
            · rw [if_pos e2]; exact h2 i a b e2 (by omega)
            · rw [if_neg e2]
              by_cases e3 : (i - 1) / 2 = (j - 1) / 2
              · rw [if_pos e3]; exact leG_trans hle (e3 ▸ h1 i a b e1)
              · rw [if_neg e3]; exact h1 i a b e1
        · rw [swapG_len] at b
          rw [sw, sw, if_neg (by omega), if_neg (by omega)]
          have hpp := h1 ((j - 1) / 2) (by omega) (by omega) (by omega)
          by_cases e1 : c = j
          · rw [if_pos e1]; exact hpp
          · rw [if_neg e1, if_neg (by omega)]
            exact leG_trans hpp (d ▸ h1 c a b e1)
      · rename_i hlt
        intro i a b
        by_cases e1 : i = j
        · subst e1; exact hlt
        · exact h1 i a b e1
theorem upG_perm {α : Type} [HOrd α] (k : Nat) : ∀ (l : List α) (j : Nat), j < l.length → (upG k l j).Perm l := by
  induction k with
  | zero => intro l j _; exact .refl _
  | succ k ih =>
    intro l j hj
    simp only [upG]
    split
    · exact .refl _
    · split
      · exact (ih _ _ (by rw [swapG_len]; omega)).trans (swapG_perm (by omega) hj)
      · exact .refl _
def dnGI {α : Type} [HOrd α] (n : Nat) (l : List α) (i : Nat) : Prop := (∀ k, 0 < k → k < n → (k - 1) / 2 ≠ i → leG (atG l ((k - 1) / 2)) (atG l k)) ∧ ∀ k, 0 < k → k < n → (k - 1) / 2 = i → 0 < i → leG (atG l ((i - 1) / 2)) (atG l k)
theorem dnJG_le {α : Type} [HOrd α] [HLaw α] {n : Nat} {l : List α} {i : Nat} (k : Nat) (h0 : 0 < k) (hk : k < n) (h : (k - 1) / 2 = i) : leG (atG l (dnJG n l i)) (atG l k) := by
  have hself : leG (atG l k) (atG l k) := fun h => HLaw.asym _ _ h h
  have hk' : k = 2 * i + 1 ∨ k = 2 * i + 2 := by omega
  unfold dnJG
  split
  · rename_i h1
    rcases hk' with rfl | rfl
    · exact leG_of h1.2
    · exact hself
  · rename_i h1
    rcases hk' with rfl | rfl
    · exact hself
    · exact fun h2 => h1 ⟨hk, h2⟩
theorem dnG_hp {α : Type} [HOrd α] [HLaw α] (f : Nat) : ∀ (n : Nat) (l : List α) (i : Nat), n - i ≤ f → n ≤ l.length → dnGI n l i → hpG n (dnG f n l i) := by
  induction f with
  | zero => intro n l i hf hn ⟨h1, _⟩ k a b; exact h1 k a b (by omega)
  | succ f ih =>
    intro n l i hf hn ⟨h1, h2⟩
    simp only [dnG]
    split
    · rename_i h0; intro k a b; exact h1 k a b (by omega)
    · rename_i h0
      have hJ := dnJG_lt (l := l) h0
      have hJp : (dnJG n l i - 1) / 2 = i := by unfold dnJG; split <;> omega
      have hch := fun k a b e => dnJG_le (n := n) (l := l) (i := i) k a b e
      generalize dnJG n l i = j at *
      split
      · rename_i hlt
        have sw := swapG_at l (i := i) (j := j) (by omega) (by omega)
        have hle := leG_of hlt
        refine ih n (swapG l i j) j (by omega) (by rw [swapG_len]; exact hn) ⟨fun k a b c => ?_, fun k a b d e => ?_⟩
        · rw [sw, sw]
          by_cases e1 : k = j
          · subst e1
            rw [if_neg (by omega), if_pos hJp, if_pos rfl]; exact hle
          · rw [if_neg e1, if_neg c]
            by_cases e2 : k = i
            · subst e2
              rw [if_neg (by omega), if_pos rfl]
              exact h2 j (by omega) hJ.1 hJp a
            · rw [if_neg e2]
              by_cases e3 : (k - 1) / 2 = i
              · rw [if_pos e3]; exact hch k a b e3
              · rw [if_neg e3]; exact h1 k a b e3
        · rw [sw, sw, if_neg (by omega), if_pos hJp, if_neg (by omega), if_neg (by omega)]
          exact d ▸ h1 k a b (by omega)
      · rename_i hlt
        intro k a b
        by_cases e3 : (k - 1) / 2 = i
        · rw [e3]; exact leG_trans hlt (hch k a b e3)
        · exact h1 k a b e3
theorem dnG_perm {α : Type} [HOrd α] (f : Nat) : ∀ (n : Nat) (l : List α) (i : Nat), i < l.length → n ≤ l.length → (dnG f n l i).Perm l := by
  induction f with
  | zero => intro n l i _ _; exact .refl _
  | succ f ih =>
    intro n l i hi hn
    simp only [dnG]
    split
    · exact .refl _
    · rename_i h0
      have hJ := dnJG_lt (l := l) h0
      split
      · exact (ih _ _ _ (by rw [swapG_len]; omega) (by rw [swapG_len]; exact hn)).trans (swapG_perm hi (by omega))
      · exact .refl _
theorem dnG_at {α : Type} [HOrd α] (f : Nat) : ∀ (n : Nat) (l : List α) (i m : Nat), n ≤ m → i < n → n ≤ l.length → atG (dnG f n l i) m = atG l m := by
  induction f with
  | zero => intro n l i m _ _ _; rfl
  | succ f ih =>
    intro n l i m hm hi hn
    simp only [dnG]
    split
    · rfl
    · rename_i h0
      have hJ := dnJG_lt (l := l) h0
      split
      · rw [ih _ _ _ _ hm hJ.1 (by rw [swapG_len]; exact hn), swapG_at l (by omega) (by omega), if_neg (by omega), if_neg (by omega)]
      · rfl
theorem hpG_root {α : Type} [HOrd α] [HLaw α] {n : Nat} {l : List α} (h : hpG n l) (k : Nat) : k < n → leG (atG l 0) (atG l k) := by
  induction k using Nat.strongRecOn with
  | ind k ih =>
    intro hk
    rcases Nat.eq_zero_or_pos k with rfl | h0
    · exact fun h => HLaw.asym _ _ h h
    · exact leG_trans (ih _ (by omega) (by omega)) (h k h0 hk)
theorem push_hpG {α : Type} [HOrd α] [HLaw α] {l : List α} {x : α} (h : hpG l.length l) : hpG (l.length + 1) (upG (l.length + 1) (l ++ [x]) l.length) := by
  have := upG_hp (l.length + 1) (l ++ [x]) l.length (by omega) (by simp) ⟨fun i a b c => ?_, fun c a b d e => ?_⟩
  · simpa using this
  · simp only [List.length_append, List.length_cons, List.length_nil] at b
    have := h i a (by omega)
    simp only [atG, List.getD_eq_getElem?_getD] at this ⊢
    rwa [List.getElem?_append_left (by omega), List.getElem?_append_left (by omega)]
  · simp only [List.length_append, List.length_cons, List.length_nil] at b; omega
theorem pop_hpG {α : Type} [HOrd α] [HLaw α] {l : List α} {n : Nat} (hn : l.length = n + 1) (h : hpG (n + 1) l) :
    hpG n ((popG l).take n) ∧ ((popG l).getD n HOrd.d :: (popG l).take n).Perm l ∧ ∀ x ∈ (popG l).take n, leG ((popG l).getD n HOrd.d) x := by
  have hp : popG l = dnG n n (swapG l 0 n) 0 := by rw [popG, hn]; rfl
  have sw := swapG_at l (i := 0) (j := n) (by omega) (by omega)
  have hlen := popG_len l
  have hat : (popG l).getD n HOrd.d = atG l 0 := by
    rcases Nat.eq_zero_or_pos n with rfl | h0
    · rw [hp]; show atG (swapG l 0 0) 0 = _; rw [sw]; simp
    · rw [hp]; show atG (dnG n n (swapG l 0 n) 0) n = _
      rw [dnG_at n n _ 0 n (Nat.le_refl _) h0 (by rw [swapG_len]; omega), sw, if_pos rfl]
  have hperm : (popG l).Perm l := by rw [hp]; exact (dnG_perm _ _ _ _ (by rw [swapG_len]; omega) (by rw [swapG_len]; omega)).trans (swapG_perm (by omega) (by omega))
  have ep : popG l = (popG l).take n ++ [(popG l).getD n HOrd.d] := by
    have h := (List.take_append_drop n (popG l)).symm
    have h2 : (popG l).drop n = [(popG l).getD n HOrd.d] := by
      rw [List.getD_eq_getElem?_getD, List.getElem?_eq_getElem (by omega), Option.getD_some, List.drop_eq_getElem_cons (by omega), List.drop_of_length_le (by omega)]
    rwa [h2] at h
  have hperm2 : ((popG l).getD n HOrd.d :: (popG l).take n).Perm l := by
    refine (List.Perm.trans ?_ hperm)
    conv => rhs; rw [ep]
    exact (List.perm_append_singleton _ _).symm
  refine ⟨?_, hperm2, fun x hx => ?_⟩
  · have := dnG_hp n n (swapG l 0 n) 0 (by omega) (by rw [swapG_len]; omega) ⟨fun k a b c => ?_, fun k a b d e => by omega⟩
    · rw [← hp] at this
      intro i a b
      have := this i a b
      simp only [atG, List.getD_eq_getElem?_getD] at this ⊢
      rwa [List.getElem?_take, if_pos (by omega), List.getElem?_take, if_pos (by omega)]
    · rw [sw, sw, if_neg (by omega), if_neg (by omega), if_neg (by omega), if_neg (by omega)]
      exact h k a (by omega)
  · rw [hat]
    have hm := hperm.subset (List.mem_of_mem_take hx)
    obtain ⟨k, hk, rfl⟩ := List.mem_iff_getElem.1 hm
    have := hpG_root h k (by omega)
    simp only [atG, List.getD_eq_getElem?_getD, List.getElem?_eq_getElem hk, Option.getD_some] at this
    simp only [atG, List.getD_eq_getElem?_getD]
    exact this
end Go.Heap
/- Queues, part five: which event stands ahead; what is held, read; the heap's methods. Conditions: not too many. -/
namespace Go.Proofs.Ytajbpdmhpcpkgaa
open Go.Eng Go.RowKit Go.WideMaps Go.Heap

abbrev ltE (a c : Ev) : Bool := lessL a.r a.n a.deps c.r c.n c.deps
instance : HOrd Wn := ⟨fun a c => ltE a.e c.e, ⟨0, ⟨0, 0, .slice none 0 0, [], 0, ⟨#[]⟩, ⟨#[]⟩, [], .slice none 0 0, []⟩, 0⟩⟩
theorem lt_Wn (a c : Wn) : HOrd.lt a c = ltE a.e c.e := rfl
instance : HLaw Wn where
  asym := fun x y h1 h2 => by
    rw [lt_Wn, ltE, lessL, decide_eq_true_eq] at h1 h2; omega
  trans := fun x y z h1 h2 h3 => by
    rw [lt_Wn, ltE, lessL, decide_eq_true_eq] at h1 h2 h3; omega
section
variable {b : World} {F : List SP} {k : Nat} {H : List Wn} {e : Wn}
end
section
variable {b : World} {F : List SP}
theorem evLess_S {e f : Ev} (he : ∀ w, Sat b F w → VL (Value.int .i64) w e.dv e.deps) (hf : ∀ w, Sat b F w → VL (Value.int .i64) w f.dv f.deps) :
    SC Try.prog n_event_Less [evV e, evV f] b F (fun v F' => v = .bool (ltE e f) ∧ F' = F) := by
  refine enterS F_event_Less rfl rfl rfl ?_
  (refine sw_seq ?_; refine sw_region ?_)
  refine so_box rfl rfl rfl rfl rfl fun g2 => ?_
  skip
  refine so_box rfl rfl rfl rfl rfl fun g3 => ?_
  (refine so_1 rfl ?_; refine so_nil ?_; refine sn_then ?_; refine sw_seq ?_; refine sw_region ?_; refine so_1 rfl ?_; refine so_l 1 rfl rfl rfl ?_; refine so_1 rfl ?_; refine so_l 1 rfl rfl rfl ?_; refine so_1 rfl ?_; refine so_l 0 rfl rfl rfl ?_; refine so_1 rfl ?_; refine so_l 0 rfl rfl rfl ?_)
  refine so_callE rfl rfl rfl (SC.ofExt fun w H => Less_spec (up he (ent_keep 2 [] rfl rfl) w H) (up hf (ent_keep 2 [] rfl rfl) w H)) ?_
  (refine so_1 rfl ?_; refine so_nil ?_; refine sn_then ?_; refine sw_ret ?_)
  refine sn_ret rfl (.tmp rfl .nil) (ent_keep 2 [] rfl rfl) ?_
  exact ⟨rfl, rfl⟩
variable {A : Option Addr} {c n : Nat} {R H : List Wn}
end
end Go.Proofs.Ytajbpdmhpcpkgaa
/- Queues, part six: the heap's methods: Swap, Push, Pop. Conditions: not too many. -/
namespace Go.Proofs.Ytajbpdmhpcpkgaa
open Go.Eng Go.RowKit Go.WideMaps Go.Heap

theorem spl_ptrs {R : List Wn} {i : Nat} {x : Wn} (h : i < R.length) : spl (ptrs R) i [.pointer (some ⟨x.g, 0, none⟩)] = ptrs (R.set i x) := by
  simp only [spl, ptrs, List.map_set, List.length_cons, List.length_nil, List.cons_append, List.nil_append, Nat.zero_add]
  rw [List.set_eq_take_append_cons_drop, if_pos (by simpa using h)]
section
variable {b : World} {F : List SP} {A : Option Addr} {c n : Nat} {R H : List Wn}
end
end Go.Proofs.Ytajbpdmhpcpkgaa
/- Queues, part seven: the heap's methods: Push, Pop. Conditions: not too many. -/
namespace Go.Proofs.Ytajbpdmhpcpkgaa
open Go.Eng Go.RowKit Go.WideMaps Go.Heap

/-- A block in which a slice's header lies. -/
structure HC (cs : Value → List Value) (off : Nat) : Prop where
  rd : ∀ v, nth (cs v) off = some v
  wr : ∀ u v, stO (cs u) off v = some (cs v)
section
variable {b : World} {F : List SP} {A : Option Addr} {c n gh t0 off : Nat} {R : List Wn} {cs : Value → List Value} {x : Wn}
end
end Go.Proofs.Ytajbpdmhpcpkgaa
/- Queues, part eight: the heap: up, down. Conditions: not too many. -/
namespace Go.Proofs.Ytajbpdmhpcpkgaa
open Go.Eng Go.RowKit Go.WideMaps Go.Heap

theorem sub_swap {m H : List Wn} (h : ∀ e ∈ m, e ∈ H) {i j : Nat} (hi : i < m.length) (hj : j < m.length) : ∀ e ∈ swapG m i j, e ∈ H := fun e he => h e ((swapG_perm hi hj).subset he)
section
variable {b : World} {F : List SP} {A : Option Addr} {c n gh t0 off : Nat} {l H : List Wn} {cs : Value → List Value}
end
end Go.Proofs.Ytajbpdmhpcpkgaa
/- Queues, part nine: the heap: down. Conditions: not too many. -/
namespace Go.Proofs.Ytajbpdmhpcpkgaa
open Go.Eng Go.RowKit Go.WideMaps Go.Heap

/-- Whether down moves what stands at i. -/
def mvG (n : Nat) (l : List Wn) (i : Nat) : Bool := !decide (n ≤ 2 * i + 1) && HOrd.lt (l.getD (dnJG n l i) HOrd.d) (l.getD i HOrd.d)
section
variable {b : World} {F : List SP} {A : Option Addr} {c n gh t0 off : Nat} {l H : List Wn} {cs : Value → List Value}
end
end Go.Proofs.Ytajbpdmhpcpkgaa
/- Queues, part ten: the heap: Push, Pop, Remove. Conditions: not too many. -/
namespace Go.Proofs.Ytajbpdmhpcpkgaa
open Go.Eng Go.RowKit Go.WideMaps Go.Heap

section
variable {b : World} {F : List SP} {A : Option Addr} {c n gh t0 off : Nat} {l H : List Wn} {cs : Value → List Value} {x : Wn}
theorem last_split {m : List Wn} (hn : m.length = n + 1) : m = m.take n ++ [m.getD n HOrd.d] := by
  have h := (List.take_append_drop n m).symm
  have h2 : m.drop n = [m.getD n HOrd.d] := by
    rw [List.getD_eq_getElem?_getD, List.getElem?_eq_getElem (by omega), Option.getD_some, List.drop_eq_getElem_cons (by omega), List.drop_of_length_le (by omega)]
  rwa [h2] at h
/-- What a heap is when the one at i is taken out. -/
def remG (l : List Wn) (i n : Nat) : List Wn := if i = n then l else if mvG n (swapG l i n) i then dnG (n - i) n (swapG l i n) i else upG (i + 1) (dnG (n - i) n (swapG l i n) i) i
theorem remG_len (l : List Wn) (i n : Nat) : (remG l i n).length = l.length := by
  unfold remG; split; rfl; split; rw [dnG_len, swapG_len]; rw [upG_len, dnG_len, swapG_len]
end
end Go.Proofs.Ytajbpdmhpcpkgaa
/- Queues, part eleven: the plain law of heap.Remove. Conditions: none. -/
namespace Go.Proofs.Ytajbpdmhpcpkgaa
open Go.Heap

theorem upG_at (k : Nat) : ∀ (l : List Wn) (j m : Nat), j < m → j < l.length → m < l.length → atG (upG k l j) m = atG l m := by
  induction k with
  | zero => intro l j m _ _ _; rfl
  | succ k ih =>
    intro l j m hm hj hml
    simp only [upG]
    split
    · rfl
    · split
      · rw [ih _ _ _ (by omega) (by rw [swapG_len]; omega) (by rw [swapG_len]; omega), swapG_at l (by omega) hj, if_neg (by omega), if_neg (by omega)]
      · rfl
theorem getD_take {l : List Wn} {n i : Nat} (h : i < n) : (l.take n).getD i HOrd.d = l.getD i HOrd.d := by
  simp only [List.getD_eq_getElem?_getD, List.getElem?_take, if_pos h]
theorem swapG_take {l : List Wn} {n i j : Nat} (hi : i < n) (hj : j < n) : (swapG l i j).take n = swapG (l.take n) i j := by
  unfold swapG
  rw [getD_take hi, getD_take hj, List.take_set, List.take_set]
theorem upG_take (k : Nat) : ∀ (l : List Wn) (j n : Nat), j < n → (upG k l j).take n = upG k (l.take n) j := by
  induction k with
  | zero => intro l j n _; rfl
  | succ k ih =>
    intro l j n hj
    simp only [upG]
    rw [getD_take hj, getD_take (show (j - 1) / 2 < n by omega)]
    split
    · rfl
    · split
      · rw [ih _ _ _ (by omega), swapG_take (by omega) hj]
      · rfl
theorem dnG_stay {n i : Nat} {l : List Wn} (k : Nat) (h : mvG n l i = false) : dnG k n l i = l := by
  cases k with
  | zero => rfl
  | succ k =>
    simp only [dnG]
    split
    · rfl
    · rename_i h1
      split
      · rename_i h2
        rw [mvG, h2, Bool.and_true] at h
        simp at h; omega
      · rfl
theorem leG_refl (x : Wn) : leG x x := fun h => HLaw.asym _ _ h h
theorem hpG_take {n : Nat} {l : List Wn} : hpG n (l.take n) ↔ hpG n l := by
  constructor
  · intro h i a c
    have := h i a c
    rwa [atG, atG, getD_take c, getD_take (show (i - 1) / 2 < n by omega)] at this
  · intro h i a c
    have := h i a c
    rwa [atG, atG, getD_take c, getD_take (show (i - 1) / 2 < n by omega)]
theorem remG_hp {l : List Wn} {n i : Nat} (hn : l.length = n + 1) (hi : i ≤ n) (h : hpG (n + 1) l) : hpG n (remG l i n) := by
  by_cases e : i = n
  · rw [remG, if_pos e]; intro k a c; exact h k a (by omega)
  have hin : i < n := by omega
  have sw := swapG_at l (i := i) (j := n) (by omega) (by omega)
  have hlen : (swapG l i n).length = n + 1 := by rw [swapG_len]; exact hn
  rw [remG, if_neg e]
  have hch : ∀ k, 0 < k → k < n → (k - 1) / 2 = i → leG (atG l i) (atG l k) := fun k a c d => by have := h k a (by omega); rwa [d] at this
  by_cases hA : i = 0 ∨ leG (atG l ((i - 1) / 2)) (atG l n)
  · have hd : hpG n (dnG (n - i) n (swapG l i n) i) := by
      refine dnG_hp (n - i) n (swapG l i n) i (by omega) (by omega) ⟨fun k a c d => ?_, fun k a c d f => ?_⟩
      · rw [sw, sw, if_neg (by omega), if_neg d, if_neg (by omega)]
        by_cases e1 : k = i
        · rw [if_pos e1]
          rcases hA with h0 | h0
          · omega
          · rw [e1]; exact h0
        · rw [if_neg e1]; exact h k a (by omega)
      · rw [sw, sw, if_neg (by omega), if_neg (by omega), if_neg (by omega), if_neg (by omega)]
        exact leG_trans (h i f (by omega)) (hch k a c d)
    split
    · exact hd
    · rename_i hq
      have hs := dnG_stay (n := n) (i := i) (l := swapG l i n) (n - i) (by simpa using hq)
      rw [hs] at hd ⊢
      have : upG (i + 1) (swapG l i n) i = swapG l i n := by
        simp only [upG]
        split
        · rfl
        · rename_i h0
          split
          · rename_i h1
            exact absurd h1 (hd i (by omega) hin)
          · rfl
      rw [this]; exact hd
  · have h0 : ¬ i = 0 := fun h => hA (.inl h)
    have hlt : leG (atG l n) (atG l ((i - 1) / 2)) := by
      have : HOrd.lt (atG l n) (atG l ((i - 1) / 2)) = true := Classical.byContradiction fun hc => hA (.inr hc)
      exact leG_of this
    have hpi := h i (by omega) (by omega)
    have hle : ∀ k, 0 < k → k < n → (k - 1) / 2 = i → leG (atG l n) (atG l k) := fun k a c d => leG_trans hlt (leG_trans hpi (hch k a c d))
    have hmv : mvG n (swapG l i n) i = false := by
      rw [Bool.eq_false_iff]
      intro hm
      simp only [mvG, Bool.and_eq_true, Bool.not_eq_true', decide_eq_false_iff_not] at hm
      obtain ⟨c1, c2⟩ := hm
      have hJ := dnJG_lt (l := swapG l i n) c1
      have hJp : (dnJG n (swapG l i n) i - 1) / 2 = i := by unfold dnJG; split <;> omega
      generalize dnJG n (swapG l i n) i = j at *
      have := hle j (by omega) hJ.1 hJp
      change HOrd.lt (atG (swapG l i n) j) (atG (swapG l i n) i) = true at c2
      rw [sw, sw, if_neg (by omega), if_neg (by omega), if_neg (by omega), if_pos rfl] at c2
      exact this c2
    rw [if_neg (by rw [hmv]; decide), dnG_stay _ hmv, ← hpG_take, upG_take _ _ _ _ hin]
    have htl : ((swapG l i n).take n).length = n := by rw [List.length_take, hlen]; omega
    have := upG_hp (i + 1) ((swapG l i n).take n) i (by omega) (by rw [htl]; exact hin) ⟨fun k a c d => ?_, fun k a c d f => ?_⟩
    · rwa [htl] at this
    · rw [htl] at c
      rw [atG, atG, getD_take c, getD_take (show (k - 1) / 2 < n by omega)]
      change leG (atG (swapG l i n) ((k - 1) / 2)) (atG (swapG l i n) k)
      by_cases e1 : (k - 1) / 2 = i
      · rw [sw, sw, if_neg (by omega), if_pos e1, if_neg (by omega), if_neg d]; exact hle k a c e1
      · rw [sw, sw, if_neg (by omega), if_neg e1, if_neg (by omega), if_neg d]; exact h k a (by omega)
    · rw [htl] at c
      rw [atG, atG, getD_take c, getD_take (show (i - 1) / 2 < n by omega)]
      change leG (atG (swapG l i n) ((i - 1) / 2)) (atG (swapG l i n) k)
      rw [sw, sw, if_neg (by omega), if_neg (by omega), if_neg (by omega), if_neg (by omega)]
      exact leG_trans hpi (hch k a c d)
theorem remG_perm {l : List Wn} {n i : Nat} (hn : l.length = n + 1) (hi : i ≤ n) : (remG l i n).Perm l := by
  have hlen : (swapG l i n).length = n + 1 := by rw [swapG_len]; exact hn
  have h1 := swapG_perm (l := l) (i := i) (j := n) (by omega) (by omega)
  have h2 := (dnG_perm (n - i) n (swapG l i n) i (by omega) (by omega)).trans h1
  unfold remG
  split
  · exact .refl _
  · split
    · exact h2
    · exact (upG_perm _ _ _ (by rw [dnG_len]; omega)).trans h2
theorem remG_at {l : List Wn} {n i : Nat} (hn : l.length = n + 1) (hi : i ≤ n) : (remG l i n).getD n HOrd.d = l.getD i HOrd.d := by
  have sw := swapG_at l (i := i) (j := n) (by omega) (by omega)
  have hlen : (swapG l i n).length = n + 1 := by rw [swapG_len]; exact hn
  unfold remG
  split
  · rename_i e; rw [e]
  · have h1 : atG (dnG (n - i) n (swapG l i n) i) n = atG l i := by
      rw [dnG_at _ _ _ _ _ (Nat.le_refl _) (by omega) (by omega), sw, if_pos rfl]
    split
    · exact h1
    · change atG (upG (i + 1) _ i) n = _
      rw [upG_at _ _ _ _ (by omega) (by rw [dnG_len]; omega) (by rw [dnG_len]; omega)]
      exact h1
end Go.Proofs.Ytajbpdmhpcpkgaa
/- Queues, part twelve: all that is held, in order. Conditions: not too many. -/
namespace Go.Proofs.Ytajbpdmhpcpkgaa
open Go.Eng Go.RowKit Go.WideMaps Go.Heap

theorem hc1 : HC (fun v => [v]) 0 := ⟨fun _ => rfl, fun _ _ => rfl⟩
theorem hcq (q m : Value) : HC (fun v => [q, v, m]) 1 := ⟨fun _ => rfl, fun _ _ => rfl⟩
section
variable {b : World} {F : List SP} {R H : List Wn} {h : Value}
end
end Go.Proofs.Ytajbpdmhpcpkgaa
/- Queues, part thirteen: how a queue stands: Vector, ripe, Ripe. Conditions: not too many. -/
namespace Go.Proofs.Ytajbpdmhpcpkgaa
open Go.Eng Go.RowKit Go.WideMaps Go.Heap

section
variable {b : World} {F : List SP} {gq gm : Nat} {v h : Value} {V : List Int} {R H : List Wn} {e : Wn}
end
end Go.Proofs.Ytajbpdmhpcpkgaa
/- Queues, part fourteen: Ripe. Conditions: not too many. -/
namespace Go.Proofs.Ytajbpdmhpcpkgaa
open Go.Eng Go.RowKit Go.WideMaps Go.Heap

def dotsC : List (Int × Int) → List Value
  | [] => []
  | d :: l => .int .i64 d.1 :: .int .i64 d.2 :: dotsC l
theorem dotsC_app (l : List (Int × Int)) (r n : Int) : dotsC l ++ [.int .i64 r, .int .i64 n] = dotsC (l ++ [(r, n)]) := by
  induction l with
  | nil => rfl
  | cons d l ih => simp only [dotsC, List.cons_append, ih]
theorem dotsC_len (l : List (Int × Int)) : (dotsC l).length = l.length * 2 := by
  induction l with
  | nil => rfl
  | cons d l ih => simp only [dotsC, List.length_cons, ih]; omega
abbrev rO (A : Option Addr) (c n : Nat) (l : List (Int × Int)) : SP := row t_api_Dot 2 (.slice A n c) n (dotsC l)
def ripes (V : List Int) (O : List Wn) : List (Int × Int) := (O.filter fun w => leqL w.e.deps V).map fun w => (w.e.r, w.e.n)
theorem ripes_snoc (V : List Int) (O : List Wn) (w : Wn) : ripes V (O ++ [w]) = if leqL w.e.deps V then ripes V O ++ [(w.e.r, w.e.n)] else ripes V O := by
  unfold ripes
  rw [List.filter_append, List.map_append]
  by_cases h : leqL w.e.deps V = true
  · rw [if_pos h]; simp [h]
  · rw [if_neg h]; simp [h]
theorem ripes_le (V : List Int) (O : List Wn) : (ripes V O).length ≤ O.length := by
  unfold ripes; rw [List.length_map]; exact List.length_filter_le _ _
section
variable {b : World} {F : List SP} {gq gm : Nat} {v h : Value} {V : List Int} {R H : List Wn}
end
end Go.Proofs.Ytajbpdmhpcpkgaa
/- Events and what is held: lists of them in memory; compared, copied, written over. Conditions: not too many. -/
namespace Go.Proofs.Ytajbpdmhpcpkgaa
open Go.Eng Go.RowKit Go.WideMaps

theorem i64wf (x : Int) : (Lit.int .i64 x).wf = true ↔ I64 x := by
  have h1 : IntKind.i64.min = -9223372036854775808 := by decide
  have h2 : IntKind.i64.max = 9223372036854775807 := by decide
  simp [Lit.wf, h1, h2, I64]
def nS : Value := .slice none 0 0
def nE (e : Ev) : Ev := e.own nS nS
def nW (w : Wn) : Wn := ⟨0, nE w.e, w.src⟩
/-- Cells one behind the other. -/
def flC {α : Type} (f : α → List Value) : List α → List Value
  | [] => []
  | a :: l => f a ++ flC f l
section
variable {α : Type} {f : α → List Value} {l : List α} {sz : Nat}
theorem flC_app (a c : List α) : flC f (a ++ c) = flC f a ++ flC f c := by
  induction a with
  | nil => rfl
  | cons x a ih => simp only [List.cons_append, flC, ih, List.append_assoc]
theorem flC_len (h : ∀ a ∈ l, (f a).length = sz) : (flC f l).length = l.length * sz := by
  induction l with
  | nil => simp [flC]
  | cons x l ih =>
    have h1 := h x List.mem_cons_self
    have h2 := ih fun w hw => h w (List.mem_cons_of_mem _ hw)
    simp only [flC, List.length_append, h1, h2, List.length_cons, Nat.succ_mul]; omega
theorem flC_at (h : ∀ a ∈ l, (f a).length = sz) {i : Nat} (hi : i < l.length) {j : Nat} (hj : j < sz) : (flC f l)[i * sz + j]? = (f l[i])[j]? := by
  induction l generalizing i with
  | nil => simp at hi
  | cons x l ih =>
    have h1 := h x List.mem_cons_self
    cases i with
    | zero => simp only [flC, Nat.zero_mul, Nat.zero_add, List.getElem_cons_zero]; exact List.getElem?_append_left (by omega)
    | succ i =>
      simp only [flC, List.getElem_cons_succ]
      rw [List.getElem?_append_right (by rw [h1, Nat.succ_mul]; omega), h1, Nat.succ_mul, show i * sz + sz + j - sz = i * sz + j by omega]
      exact ih (fun w hw => h w (List.mem_cons_of_mem _ hw)) (by simpa using hi)
theorem flC_seg (h : ∀ a ∈ l, (f a).length = sz) {i : Nat} (hi : i < l.length) : ((flC f l).drop (i * sz)).take sz = f l[i] := by
  apply List.ext_getElem?
  intro j
  rw [List.getElem?_take, List.getElem?_drop]
  have h1 := h _ (List.getElem_mem hi)
  split
  · rename_i hj; exact flC_at h hi hj
  · rename_i hj; rw [List.getElem?_eq_none (by omega)]
theorem flC_set (h : ∀ a ∈ l, (f a).length = sz) {i : Nat} {x : α} (hx : (f x).length = sz) (hi : i < l.length) : spl (flC f l) (i * sz) (f x) = flC f (l.set i x) := by
  induction l generalizing i with
  | nil => simp at hi
  | cons y l ih =>
    have h1 := h y List.mem_cons_self
    cases i with
    | zero =>
      simp only [List.set_cons_zero, flC, spl, Nat.zero_mul, List.take_zero, List.nil_append, Nat.zero_add, hx]
      rw [List.drop_append_of_le_length (by omega), List.drop_of_length_le (by omega), List.nil_append]
    | succ i =>
      have := ih (fun w hw => h w (List.mem_cons_of_mem _ hw)) (by simpa using hi)
      simp only [List.set_cons_succ, flC, ← this, spl]
      rw [Nat.succ_mul, show i * sz + sz = (f y).length + i * sz by omega, List.take_length_add_append, show (f y).length + i * sz + (f x).length = (f y).length + (i * sz + (f x).length) by omega, List.drop_length_add_append, List.append_assoc]
theorem flC_one (h : ∀ a ∈ l, ∀ u ∈ f a, u.oneCell' = true) : ∀ u ∈ flC f l, u.oneCell' = true := by
  induction l with
  | nil => intro u hu; simp [flC] at hu
  | cons x l ih =>
    intro u hu
    rcases List.mem_append.1 hu with hu | hu
    · exact h x List.mem_cons_self u hu
    · exact ih (fun w hw => h w (List.mem_cons_of_mem _ hw)) u hu
theorem sl_cell {w : World} {bk off n c j : Nat} {cs : List Value} (h : SL w sz (.slice (some ⟨bk, off, none⟩) n c) n cs) (hj : j < cs.length) : w.cell? ⟨bk, off + j, none⟩ = cs[j]? := by
  obtain ⟨A, c', hv, hl, _, _, _, hc⟩ := h
  cases hv
  obtain ⟨b', o', hA, _, hcc⟩ := hc (by
    rcases Nat.eq_zero_or_pos n with h0 | h0
    · subst h0; simp at hl; subst hl; simp at hj
    · exact h0)
  cases hA
  exact hcc j hj
theorem fl_cell {w : World} {bk off c i j : Nat} (h : SL w sz (.slice (some ⟨bk, off, none⟩) l.length c) l.length (flC f l)) (hf : ∀ a ∈ l, (f a).length = sz) (hi : i < l.length) (hj : j < sz) : w.cell? ⟨bk, off + i * sz + j, none⟩ = (f l[i])[j]? := by
  rw [Nat.add_assoc, sl_cell h, flC_at hf hi hj]
  rw [flC_len hf]
  have : (i + 1) * sz ≤ l.length * sz := Nat.mul_le_mul_right _ hi
  rw [Nat.succ_mul] at this; omega
end
theorem segO_front {l : List Value} (m : List Value) {n : Nat} (h : l.length = n) : segO (l ++ m) 0 n = some l := by
  subst h
  induction l with
  | nil => cases m <;> rfl
  | cons a l ih => simp only [List.cons_append, List.length_cons, segO, ih]
theorem evC_id {e : Ev} (h : e.id.length = 32) : segO (evC e) 6 32 = some (u8s e.id) := segO_front (n := 32) _ (by rw [u8s_len, h])
theorem evC_strv {e : Ev} {v : Value} (h : e.id.length = 32) : stO (evC e) 38 v = some (evC { e with rv := v }) := by
  refine stO_ok (by rw [evC_len h]; omega) ?_
  simp only [evC, List.set_cons_succ]
  have := set_at (u8s e.id) e.rv v []
  rw [u8s_len, h] at this
  rw [this]
theorem idsC_fl (l : List (List Int)) : idsC l = flC u8s l := by
  induction l with
  | nil => rfl
  | cons x l ih => simp only [idsC, flC, ih]
abbrev wssC : List Wn → List Value := flC waC
abbrev evsC : List Ev → List Value := flC evC
theorem wssC_len {l : List Wn} (h : ∀ w ∈ l, w.e.id.length = 32) : (wssC l).length = l.length * 40 := flC_len fun w hw => wsC_len (h w hw)
def wsP (w : Wn) : List SP := [rZ w.e.dv w.e.deps, rD w.e.rv w.e.refs]
def wsF : List Wn → List SP
  | [] => []
  | w :: l => wsP w ++ wsF l
theorem wsF_app (a c : List Wn) : wsF (a ++ c) = wsF a ++ wsF c := by
  induction a with
  | nil => rfl
  | cons x a ih => simp only [List.cons_append, wsF, ih, List.append_assoc]
theorem wsF_snoc {a : List Wn} {x : Wn} : (wsF (a ++ [x])).Perm (wsP x ++ wsF a) := by
  rw [wsF_app]
  exact List.perm_append_comm.trans (.of_eq (by simp [wsF]))
def evP (e : Ev) : List SP := [rZ e.dv e.deps, rD e.rv e.refs]
def evF : List Ev → List SP
  | [] => []
  | e :: l => evP e ++ evF l
theorem evF_app (a c : List Ev) : evF (a ++ c) = evF a ++ evF c := by
  induction a with
  | nil => rfl
  | cons x a ih => simp only [List.cons_append, evF, ih, List.append_assoc]
theorem evF_snoc {a : List Ev} {x : Ev} : (evF (a ++ [x])).Perm (evP x ++ evF a) := by
  rw [evF_app]
  exact List.perm_append_comm.trans (.of_eq (by simp [evF]))
abbrev rEn (A : Option Addr) (c n : Nat) (l : List Ev) : SP := row t_api_Event 39 (.slice A n c) n (evsC l)
abbrev rEs (v : Value) (l : List Ev) : SP := row t_api_Event 39 v l.length (evsC l)
/-- An event may be read. -/
structure ER (w : World) (e : Ev) : Prop where
  dv : VL (Value.int .i64) w e.dv e.deps
  rv : SL w 32 e.rv e.refs.length (idsC e.refs)
/-- An event is one. -/
structure EW (e : Ev) : Prop where
  id : idOk e.id
  dot : dotOk (e.r, e.n)
  rf : ∀ x ∈ e.refs, idOk x
  kind : I64 e.kind
  dp : ∀ x ∈ e.deps, I64 x
  rs : e.repo.size ≤ maxLen
  ts : e.tag.size ≤ maxLen
theorem EW.l32 {e : Ev} (h : EW e) : e.id.length = 32 := h.id.1
theorem EW.r32 {e : Ev} (h : EW e) : len32 e.refs := fun x hx => (h.rf x hx).1
theorem EW.own {e : Ev} (h : EW e) (dv rv : Value) : EW (e.own dv rv) := ⟨h.id, h.dot, h.rf, h.kind, h.dp, h.rs, h.ts⟩
structure WL (w : World) (v : Value) (l : List Wn) : Prop where
  sl : SL w 40 v l.length (wssC l)
  er : ∀ m ∈ l, ER w m.e
structure EL (w : World) (v : Value) (l : List Ev) : Prop where
  sl : SL w 39 v l.length (evsC l)
  er : ∀ m ∈ l, ER w m
section
variable {b : World} {F : List SP} {e : Ev} {l : List Wn}
theorem wsF_er {k : Nat} (hk : nth F k = some (all (wsF l))) {m : Wn} (hm : m ∈ l) : ∀ w, Sat b F w → ER w m.e := fun w hS => by
  obtain ⟨l1, l2, rfl⟩ := List.append_of_mem hm
  obtain ⟨h1, hl, hA⟩ := hS.mem.get hk
  have hp : (wsF (l1 ++ m :: l2)).Perm (wsP m ++ wsF (l1 ++ l2)) := by
    rw [wsF_app, wsF, wsF_app, ← List.append_assoc, ← List.append_assoc]
    exact List.perm_append_comm.append_right _
  have h2 : Sat b (wsP m ++ wsF (l1 ++ l2)) w := ⟨hS.os, hS.tape, hS.output, (ent_perm hp _ hA).mono hl⟩
  exact ⟨vlZ (k := 0) rfl w h2, (h2.oat (k := 1) rfl).sl⟩
theorem evF_er {l : List Ev} {k : Nat} (hk : nth F k = some (all (evF l))) {m : Ev} (hm : m ∈ l) : ∀ w, Sat b F w → ER w m := fun w hS => by
  obtain ⟨l1, l2, rfl⟩ := List.append_of_mem hm
  obtain ⟨h1, hl, hA⟩ := hS.mem.get hk
  have hp : (evF (l1 ++ m :: l2)).Perm (evP m ++ evF (l1 ++ l2)) := by
    rw [evF_app, evF, evF_app, ← List.append_assoc, ← List.append_assoc]
    exact List.perm_append_comm.append_right _
  have h2 : Sat b (evP m ++ evF (l1 ++ l2)) w := ⟨hS.os, hS.tape, hS.output, (ent_perm hp _ hA).mono hl⟩
  exact ⟨vlZ (k := 0) rfl w h2, (h2.oat (k := 1) rfl).sl⟩
theorem rEs_el {l : List Ev} {v : Value} {k j : Nat} (hk : nth F k = some (rEs v l)) (hj : nth F j = some (all (evF l))) : ∀ w, Sat b F w → EL w v l := fun w H => ⟨(H.oat hk).sl, fun _ hm => evF_er hj hm w H⟩
theorem SameInts_S {va vb : Value} {xs ys : List Int} (ha : ∀ w, Sat b F w → VL (Value.int .i64) w va xs) (hb : ∀ w, Sat b F w → VL (Value.int .i64) w vb ys) : SC Try.prog n_entrepotkit_SameInts [va, vb] b F (fun v F' => v = .bool (decide (xs = ys)) ∧ F' = F) :=
  SC.ofExt fun w H => SameInts_spec (ha w H) (hb w H)
theorem CopyInts_S {va : Value} {xs : List Int} (ha : ∀ w, Sat b F w → VL (Value.int .i64) w va xs) (hn : xs.length ≤ 1048576) : SC Try.prog n_entrepotkit_CopyInts [va] b F (fun v F' => F' = rZ v xs :: F) :=
  SC.ofMade fun w H => CopyInts_spec (ha w H) hn
set_option maxHeartbeats 1000000 in
theorem SameIDs_R {va vb : Value} {l : List (List Int)} (ha : ∀ w, Sat b F w → SL w 32 va l.length (idsC l)) (hb : ∀ w, Sat b F w → SL w 32 vb l.length (idsC l)) (hl : len32 l) (hm : l.length ≤ 1000000) : SC Try.prog n_entrepotkit_SameIDs [va, vb] b F (fun v F' => v = .bool true ∧ F' = F) := by
  refine enterS F_entrepotkit_SameIDs rfl rfl rfl ?_
  refine sw_fact (fun w H => sl_form (ha w H)) ?_
  rintro ⟨A, c, rfl, h1, h2, h3, h4, _⟩
  refine sw_fact (fun w H => sl_form (hb w H)) ?_
  rintro ⟨B, d, rfl, q1, q2, q3, q4, _⟩
  (refine sw_seq ?_; refine sw_region ?_; refine so_1 rfl ?_; refine so_nil ?_; refine sn_then ?_; refine sw_seq ?_; refine sw_region ?_; (iterate 6 refine so_1 rfl ?_); refine so_nil ?_; refine sn_then ?_; (iterate 2 refine sw_seq ?_); refine sw_region ?_; refine so_1 rfl ?_; refine so_nil ?_; refine sn_then ?_; refine sw_block ?_)
  refine sw_know 5 (.bool true) rfl (by simp) ?_
  refine sw_loop (S := Nat) (fun i => [(0, .slice A l.length c), (1, .slice B l.length d), (5, .bool true), (6, .int .i64 (i : Int))]) (fun _ => F) (fun i => i ≤ l.length) (fun i => l.length - i) 0 ⟨rfl, rfl, rfl, rfl, trivial⟩ (Ent.refl _) (Nat.zero_le _) ?_
  intro i hi
  ((iterate 2 refine sw_seq ?_); refine sw_region ?_; (iterate 7 refine so_1 rfl ?_); refine so_nil ?_; refine sn_then ?_)
  refine sw_if rfl (fun g1 => ?_) (fun g1 => ?_)
  · have g1' : i < l.length := by omega
    obtain ⟨gA, oA, rfl⟩ := h4 (by omega)
    obtain ⟨gB, oB, rfl⟩ := q4 (by omega)
    have hx := hl _ (List.getElem_mem g1')
    have ca : ∀ w, Sat b F w → ∀ j, j < 32 → w.cell? ⟨gA, oA + i * 32 + j, none⟩ = (u8s l[i])[j]? := fun w H j hj => fl_cell (f := u8s) (by rw [← idsC_fl]; exact ha w H) (fun a h => by rw [u8s_len, hl a h]) g1' hj
    have cb : ∀ w, Sat b F w → ∀ j, j < 32 → w.cell? ⟨gB, oB + i * 32 + j, none⟩ = (u8s l[i])[j]? := fun w H j hj => fl_cell (f := u8s) (by rw [← idsC_fl]; exact hb w H) (fun a h => by rw [u8s_len, hl a h]) g1' hj
    generalize l[i] = x at *
    (refine sw_skip ?_; refine sn_then ?_; refine sw_seq ?_; refine sw_block ?_)
    refine sw_draw flo _ (by decide +kernel) (Ent.refl _) ?_
    ((iterate 2 refine sd_1 rfl (.inl rfl) ?_); refine sd_2 rfl rfl (by omega) ?_)
    refine sd_rd rfl (fun w H => ex_loadN (cs := u8s x) rfl rfl rfl (by rw [u8s_len, hx]; rfl) (fun j hj => by rw [mulz_eq, Int.toNat_natCast]; exact ca w H j (by rw [u8s_len, hx] at hj; exact hj))) rfl rfl ?_
    ((iterate 2 refine sd_1 rfl (.inl rfl) ?_); refine sd_2 rfl rfl (by omega) ?_)
    refine sd_rd rfl (fun w H => ex_loadN (cs := u8s x) rfl rfl rfl (by rw [u8s_len, hx]; rfl) (fun j hj => by rw [mulz_eq, Int.toNat_natCast]; exact cb w H j (by rw [u8s_len, hx] at hj; exact hj))) rfl rfl ?_
    refine sd_pu rfl (pu_eqI (as00 := x) (bs := x) rfl rfl hx hx) rfl rfl ?_
    refine sd_know 29 (.bool true) rfl (by simp) ?_
    (refine sd_1 rfl (.inl rfl) ?_)
    refine sd_nil ?_
    (refine sn_block ?_; refine sn_then ?_; refine sw_region ?_; refine so_1 rfl ?_; refine so_2 rfl (by (unfold I64; omega)) ?_; refine so_1 rfl ?_; refine so_nil ?_)
    refine sn_round (i + 1) ⟨rfl, rfl, rfl, rfl, trivial⟩ (Ent.refl _) ?_ ?_
    · show i + 1 ≤ l.length
      omega
    · show l.length - (i + 1) < l.length - i
      omega
  · (refine sw_exit ?_; refine sn_then_exit ?_; refine sn_loop_exit ?_; refine sn_block_exit ?_; refine sn_then ?_; refine sw_seq ?_; refine sw_region ?_; (iterate 2 refine so_1 rfl ?_); refine so_nil ?_; refine sn_then ?_; refine sw_ret ?_)
    refine sn_ret rfl (.tmp rfl .nil) (Ent.refl _) ?_
    exact ⟨rfl, rfl⟩
set_option maxRecDepth 20000 in
set_option maxHeartbeats 1000000 in
theorem LongEvent_S (h32 : e.id.length = 32) (he : ∀ w, Sat b F w → ER w e) : SC Try.prog n_entrepotkit_LongEvent [evV e] b F (fun v F' => ∃ q : Bool, (q = false → e.deps.length ≤ 20 ∧ e.refs.length ≤ 300 ∧ e.repo.size ≤ 200 ∧ e.tag.size ≤ 200) ∧ v = .bool q ∧ F' = F) := by
  refine enterS F_entrepotkit_LongEvent rfl rfl rfl ?_
  refine sw_fact (fun w H => (he w H).dv.form) ?_
  rintro ⟨A, c, hdv, _, _, _, _⟩
  refine sw_fact (fun w H => sl_form (he w H).rv) ?_
  rintro ⟨A2, c2, hrv, _, _, _, _, _⟩
  (refine sw_seq ?_; refine sw_region ?_)
  refine so_box rfl rfl rfl rfl rfl fun g1 => ?_
  (refine so_1 rfl ?_; refine so_nil ?_; refine sn_then ?_; refine sw_seq ?_; refine sw_region ?_; refine so_1 rfl ?_; refine so_l 0 rfl rfl rfl ?_)
  refine so_know 4 (.slice A e.deps.length c) rfl hdv ?_
  ((iterate 3 refine so_1 rfl ?_))
  by_cases h1 : 20 < e.deps.length
  · refine so_know 7 (.bool true) rfl (congrArg Value.bool (decide_eq_true (by omega))) ?_
    ((iterate 18 refine so_1 rfl ?_); refine so_nil ?_; refine sn_then ?_; refine sw_ret ?_)
    refine sn_ret rfl (.tmp rfl .nil) (ent_keep 1 [] rfl rfl) ?_
    exact ⟨true, (fun h => by cases h), rfl, rfl⟩
  refine so_know 7 (.bool false) rfl (congrArg Value.bool (decide_eq_false (by omega))) ?_
  (refine so_1 rfl ?_)
  refine so_ld 0 rfl rfl rfl rfl rfl rfl (evC_rv h32) rfl ?_
  refine so_know 9 (.slice A2 e.refs.length c2) rfl hrv ?_
  ((iterate 4 refine so_1 rfl ?_))
  by_cases h2 : 300 < e.refs.length
  · refine so_know 13 (.bool true) rfl (congrArg Value.bool (decide_eq_true (by omega))) ?_
    ((iterate 12 refine so_1 rfl ?_); refine so_nil ?_; refine sn_then ?_; refine sw_ret ?_)
    refine sn_ret rfl (.tmp rfl .nil) (ent_keep 1 [] rfl rfl) ?_
    exact ⟨true, (fun h => by cases h), rfl, rfl⟩
  refine so_know 13 (.bool false) rfl (congrArg Value.bool (decide_eq_false (by omega))) ?_
  (refine so_1 rfl ?_; refine so_l 0 rfl rfl rfl ?_; (iterate 4 refine so_1 rfl ?_))
  by_cases h3 : 200 < e.repo.size
  · refine so_know 19 (.bool true) rfl (congrArg Value.bool (decide_eq_true (by omega))) ?_
    ((iterate 6 refine so_1 rfl ?_); refine so_nil ?_; refine sn_then ?_; refine sw_ret ?_)
    refine sn_ret rfl (.tmp rfl .nil) (ent_keep 1 [] rfl rfl) ?_
    exact ⟨true, (fun h => by cases h), rfl, rfl⟩
  refine so_know 19 (.bool false) rfl (congrArg Value.bool (decide_eq_false (by omega))) ?_
  (refine so_1 rfl ?_; refine so_l 0 rfl rfl rfl ?_; (iterate 4 refine so_1 rfl ?_); refine so_nil ?_; refine sn_then ?_; refine sw_ret ?_)
  refine sn_ret rfl (.tmp rfl .nil) (ent_keep 1 [] rfl rfl) ?_
  exact ⟨_, fun h => ⟨by omega, by omega, by omega, by have := of_decide_eq_false h; omega⟩, rfl, rfl⟩
end
end Go.Proofs.Ytajbpdmhpcpkgaa
/- Events and what is held, continued: compared, copied. Conditions: not too many. -/
namespace Go.Proofs.Ytajbpdmhpcpkgaa
open Go.Eng Go.RowKit Go.WideMaps

theorem nE_eq {e f : Ev} (h : nE e = nE f) : ∃ dv rv, f = e.own dv rv := by
  refine ⟨f.dv, f.rv, ?_⟩
  have h1 : f = (nE f).own f.dv f.rv := rfl
  rw [h1, ← h]; rfl
theorem nW_eq {w x : Wn} (h : nW w = nW x) : nE w.e = nE x.e ∧ w.src = x.src := ⟨show (nW w).e = (nW x).e from congrArg Wn.e h, show (nW w).src = (nW x).src from congrArg Wn.src h⟩
section
variable {b : World} {F : List SP} {e f : Ev} {l : List Wn}
theorem ER.own {w : World} {dv rv : Value} (h : VL (Value.int .i64) w dv e.deps) (h2 : SL w 32 rv e.refs.length (idsC e.refs)) : ER w (e.own dv rv) := ⟨h, h2⟩
set_option maxRecDepth 20000 in
set_option maxHeartbeats 2000000 in
theorem SameEvent_S (h : nE e = nE f) (he : ∀ w, Sat b F w → ER w e) (hf : ∀ w, Sat b F w → ER w f) (h32 : e.id.length = 32) (hr : len32 e.refs) (hl : e.refs.length ≤ 1000000) :
    SC Try.prog n_entrepotkit_SameEvent [evV e, evV f] b F (fun v F' => v = .bool true ∧ F' = F) := by
  obtain ⟨dv, rv, rfl⟩ := nE_eq h
  have h33 : (e.own dv rv).id.length = 32 := h32
  refine enterS F_entrepotkit_SameEvent rfl rfl rfl ?_
  (refine sw_seq ?_; refine sw_region ?_)
  refine so_box rfl rfl rfl rfl rfl fun g2 => ?_
  skip
  refine so_box rfl rfl rfl rfl rfl fun g3 => ?_
  (refine so_1 rfl ?_; refine so_nil ?_; refine sn_then ?_; refine sw_seq ?_; refine sw_region ?_; refine so_1 rfl ?_; refine so_l 1 rfl rfl rfl ?_; refine so_1 rfl ?_; refine so_l 0 rfl rfl rfl ?_)
  refine so_pu rfl (pu_eqA rfl rfl (eq_dot _ _ _ _)) rfl ?_
  refine so_know 9 (.bool true) rfl (congrArg Value.bool (decide_eq_true ⟨rfl, rfl⟩)) ?_
  ((iterate 2 refine so_1 rfl ?_); refine so_l 1 rfl rfl rfl ?_; refine so_1 rfl ?_; refine so_l 0 rfl rfl rfl ?_)
  refine so_callE rfl rfl rfl (SameInts_S (up (fun w H => (he w H).dv) (ent_keep 2 [] rfl rfl)) (up (fun w H => (hf w H).dv) (ent_keep 2 [] rfl rfl))) ?_
  refine so_know 15 (.bool true) rfl (congrArg Value.bool (decide_eq_true rfl)) ?_
  ((iterate 3 refine so_1 rfl ?_); refine so_l 1 rfl rfl rfl ?_; refine so_1 rfl ?_; refine so_l 0 rfl rfl rfl ?_; (iterate 3 refine so_1 rfl ?_))
  refine so_know 24 (.bool true) rfl (congrArg Value.bool (decide_eq_true rfl)) ?_
  (refine so_1 rfl ?_; refine so_l 1 rfl rfl rfl ?_; refine so_1 rfl ?_; refine so_l 0 rfl rfl rfl ?_; (iterate 3 refine so_1 rfl ?_))
  refine so_know 31 (.bool true) rfl (by first | exact congrArg Value.bool (decide_eq_true rfl) | simp [Ev.own]) ?_
  (refine so_1 rfl ?_; refine so_l 1 rfl rfl rfl ?_; refine so_1 rfl ?_; refine so_l 0 rfl rfl rfl ?_; (iterate 3 refine so_1 rfl ?_))
  refine so_know 38 (.bool true) rfl (by first | exact congrArg Value.bool (decide_eq_true rfl) | simp [Ev.own]) ?_
  (refine so_1 rfl ?_)
  refine so_ldA 1 rfl rfl rfl rfl rfl rfl (evC_id h32) rfl ?_
  (refine so_1 rfl ?_)
  refine so_ldA 0 rfl rfl rfl rfl rfl rfl (evC_id h33) rfl ?_
  refine so_pu rfl (pu_eqI (as00 := e.id) (bs := e.id) rfl rfl h32 h32) rfl ?_
  refine so_know 43 (.bool true) rfl (congrArg Value.bool (decide_eq_true rfl)) ?_
  ((iterate 3 refine so_1 rfl ?_))
  refine so_ld 1 rfl rfl rfl rfl rfl rfl (evC_rv h32) rfl ?_
  (refine so_1 rfl ?_)
  refine so_ld 0 rfl rfl rfl rfl rfl rfl (evC_rv h33) rfl ?_
  refine so_callE rfl rfl rfl (SameIDs_R (l := e.refs) (up (fun w H => (he w H).rv) (ent_keep 2 [] rfl rfl)) (up (fun w H => (hf w H).rv) (ent_keep 2 [] rfl rfl)) hr hl) ?_
  ((iterate 2 refine so_1 rfl ?_); refine so_nil ?_; refine sn_then ?_; refine sw_ret ?_)
  refine sn_ret rfl (.tmp rfl .nil) (ent_keep 2 [] rfl rfl) ?_
  exact ⟨rfl, rfl⟩
set_option maxRecDepth 20000 in
set_option maxHeartbeats 2000000 in
theorem CopyEvent_S (he : ∀ w, Sat b F w → ER w e) (h32 : e.id.length = 32) (hd : e.deps.length ≤ 1000000) (hl : e.refs.length ≤ 1000000) :
    SC Try.prog n_entrepotkit_CopyEvent [evV e] b F (fun v F' => ∃ dv rv, v = evV (e.own dv rv) ∧ F' = rZ dv e.deps :: rD rv e.refs :: F) := by
  refine enterS F_entrepotkit_CopyEvent rfl rfl rfl ?_
  (refine sw_seq ?_; refine sw_region ?_)
  refine so_box rfl rfl rfl rfl rfl fun g1 => ?_
  skip
  refine so_new rfl rfl rfl rfl rfl fun g2 => ?_
  (refine so_nil ?_; refine sn_then ?_; refine sw_seq ?_; refine sw_region ?_; refine so_1 rfl ?_; refine so_l 1 rfl rfl rfl ?_)
  refine so_call rfl rfl rfl (CopyInts_S (up (fun w H => (he w H).dv) (ent_keep 2 [] rfl rfl)) (by omega)) ?_
  rintro dv _ rfl
  refine so_fact (fun w H => (H.oat (k := 0) rfl).form) ?_
  rintro ⟨A1, c1, rfl, _, _, _⟩
  (refine so_1 rfl ?_; refine so_s1 2 rfl rfl rfl rfl ?_; refine so_nil ?_; refine sn_then ?_; refine sw_seq ?_; refine sw_region ?_)
  refine so_lit0 rfl rfl rfl rfl rfl fun g0 => ?_
  refine so_ent (ent_blk_row (n := 0) (sz := 32) rfl rfl (by decide) 0 rfl rfl) ?_
  (refine so_1 rfl ?_)
  refine so_ld 3 rfl rfl rfl rfl rfl rfl (evC_rv (e := { e with dv := .slice A1 e.deps.length c1 }) h32) rfl ?_
  refine so_append 0 rfl rfl rfl rfl rfl rfl rfl rfl rfl (up (fun w H => (he w H).rv) (ent_keep 4 [] rfl rfl)) (idsC_one e.refs) (by omega) (fun _ => rfl) fun v6 => ?_
  refine so_fact (fun w H => (H.oat (k := 0) rfl).form) ?_
  rintro ⟨A2, c2, rfl, _, _, _⟩
  rw [Nat.zero_add, List.nil_append]
  (refine so_1 rfl ?_)
  refine so_st 3 rfl rfl rfl rfl rfl rfl rfl rfl (show stO (evC { e with dv := .slice A1 e.deps.length c1 }) 38 _ = some (evC (e.own (.slice A1 e.deps.length c1) (.slice A2 e.refs.length c2))) from evC_strv h32) rfl ?_
  have h33 : (e.own (.slice A1 e.deps.length c1) (.slice A2 e.refs.length c2)).id.length = 32 := h32
  have hone := evC_one (e := e.own (.slice A1 e.deps.length c1) (.slice A2 e.refs.length c2)) rfl rfl
  generalize hye : e.own (.slice A1 e.deps.length c1) (.slice A2 e.refs.length c2) = ye at *
  (refine so_nil ?_; refine sn_then ?_; refine sw_seq ?_; refine sw_region ?_)
  refine so_ldA 3 rfl rfl rfl rfl rfl rfl (segO_all (by rw [evC_len h33]; rfl)) rfl ?_
  refine so_stW 2 rfl rfl rfl rfl rfl rfl rfl (evC_len h33) hone (by rw [evC_len h33]; rfl) ?_
  (refine so_nil ?_; refine sn_then ?_; refine sw_ret ?_)
  refine sn_ret rfl (.whole 2 rfl rfl rfl rfl (by rw [evC_len h33]; rfl) .nil) (ent_keep 4 [1, 0] rfl rfl) ?_
  exact ⟨_, _, by rw [hye]; rfl, rfl⟩
theorem wa_len (h : ∀ m ∈ l, m.e.id.length = 32) : ∀ m ∈ l, (waC m).length = 40 := fun m hm => wsC_len (h m hm)
theorem ev_len {l : List Ev} (h : ∀ m ∈ l, m.id.length = 32) : ∀ m ∈ l, (evC m).length = 39 := fun m hm => evC_len (h m hm)
theorem wa_cell {w : World} {bk off c i j : Nat} (h : WL w (.slice (some ⟨bk, off, none⟩) l.length c) l) (h32 : ∀ m ∈ l, m.e.id.length = 32) (hi : i < l.length) (hj : j < 40) : w.cell? ⟨bk, off + i * 40 + j, none⟩ = (waC l[i])[j]? := fl_cell h.sl (wa_len h32) hi hj
theorem ev_cell {l : List Ev} {w : World} {bk off c i j : Nat} (h : EL w (.slice (some ⟨bk, off, none⟩) l.length c) l) (h32 : ∀ m ∈ l, m.id.length = 32) (hi : i < l.length) (hj : j < 39) : w.cell? ⟨bk, off + i * 39 + j, none⟩ = (evC l[i])[j]? := fl_cell h.sl (ev_len h32) hi hj
theorem wa_ev {w : Wn} {j : Nat} (h : w.e.id.length = 32) (hj : j < 39) : (waC w)[j]? = (evC w.e)[j]? := by
  show (evC w.e ++ _)[j]? = _
  rw [List.getElem?_append_left (by rw [evC_len h]; exact hj)]
theorem wa_src {w : Wn} (h : w.e.id.length = 32) : (waC w)[39]? = some (.int .i64 w.src) := by rw [← nth_eq]; exact wsC_src h
end
end Go.Proofs.Ytajbpdmhpcpkgaa
/- Events and what is held, continued: written over; which are too many; dots. Conditions: not too many. -/
namespace Go.Proofs.Ytajbpdmhpcpkgaa
open Go.Eng Go.RowKit Go.WideMaps

section
variable {b : World} {F : List SP}
theorem OverInts_D {v : Value} {l : List Int} (hm : l.length ≤ 1000000) : SC Try.prog n_entrepotkit_OverInts [v] b (rZ v l :: F) (fun _ F' => F' = F) := by
  refine enterS F_entrepotkit_OverInts rfl rfl rfl ?_
  refine sw_fact (fun w H => (H.oat (k := 0) rfl).form) ?_
  rintro ⟨A, c, rfl, k1, k2, k3⟩
  (refine sw_seq ?_; refine sw_region ?_; refine so_1 rfl ?_; refine so_nil ?_; refine sn_then ?_; refine sw_block ?_)
  refine sw_loop (S := Nat × List Int) (fun s => [(0, .slice A l.length c), (2, .int .i64 (s.1 : Int))]) (fun s => row t_int 1 (.slice A l.length c) l.length (ints s.2) :: F) (fun s => s.1 ≤ l.length ∧ s.2.length = l.length) (fun s => l.length - s.1) (0, l) ⟨rfl, rfl, trivial⟩ (Ent.refl _) ⟨Nat.zero_le _, rfl⟩ ?_
  rintro ⟨i, m⟩ ⟨i1, i2⟩
  dsimp only at i1 i2 ⊢
  ((iterate 2 refine sw_seq ?_); refine sw_region ?_; (iterate 4 refine so_1 rfl ?_); refine so_nil ?_; refine sn_then ?_)
  refine sw_if rfl (fun h1 => ?_) (fun h1 => ?_)
  · obtain ⟨gA, oA, rfl⟩ := k3 (by omega)
    have hset : spl (ints m) i [.int .i64 (-77)] = ints (m.set i (-77)) := by
      have := flC_set (f := fun x : Int => [Value.int .i64 x]) (l := m) (sz := 1) (fun _ _ => rfl) (i := i) (x := -77) rfl (by omega)
      have e : ∀ l : List Int, flC (fun x : Int => [Value.int .i64 x]) l = ints l := fun l => by
        induction l with
        | nil => rfl
        | cons x l ih => simp only [flC, ih]; rfl
      rw [e, e, Nat.mul_one] at this
      exact this
    (refine sw_skip ?_; refine sn_then ?_; refine sw_seq ?_; refine sw_block ?_; refine sw_region ?_; (iterate 2 refine so_1 rfl ?_); refine so_2 rfl (by omega) ?_)
    refine so_strow 0 i rfl rfl rfl rfl rfl rfl rfl rfl hset rfl (by rw [mulz_eq, Int.toNat_natCast, Nat.mul_one]) (by simp [ints]; omega) (by simp [Value.oneCell']) ?_
    (refine so_nil ?_; refine sn_block ?_; refine sn_then ?_; refine sw_region ?_; refine so_1 rfl ?_; refine so_2 rfl (by (unfold I64; omega)) ?_; refine so_1 rfl ?_; refine so_nil ?_)
    refine sn_round (i + 1, m.set i (-77)) ⟨rfl, rfl, trivial⟩ (Ent.refl _) ⟨by dsimp only; omega, by dsimp only; rw [List.length_set]; exact i2⟩ (by dsimp only; omega)
  · (refine sw_exit ?_; refine sn_then_exit ?_; refine sn_loop_exit ?_; refine sn_block_exit ?_)
    refine sn_end rfl .nil (ent_keep 1 [] rfl rfl) ?_
    rfl
theorem OverIDs_D {v : Value} {l : List (List Int)} (hl : len32 l) (hm : l.length ≤ 1000000) : SC Try.prog n_entrepotkit_OverIDs [v] b (rD v l :: F) (fun _ F' => F' = F) := by
  refine enterS F_entrepotkit_OverIDs rfl rfl rfl ?_
  refine sw_fact (fun w H => (H.oat (k := 0) rfl).form) ?_
  rintro ⟨A, c, rfl, k1, k2, k3⟩
  (refine sw_seq ?_; refine sw_region ?_; refine so_1 rfl ?_; refine so_nil ?_; refine sn_then ?_; refine sw_block ?_)
  refine sw_loop (S := Nat × List (List Int)) (fun s => [(0, .slice A l.length c), (2, .int .i64 (s.1 : Int))]) (fun s => rN A c l.length s.2 :: F) (fun s => s.1 ≤ l.length ∧ len32 s.2 ∧ s.2.length = l.length) (fun s => l.length - s.1) (0, l) ⟨rfl, rfl, trivial⟩ (Ent.refl _) ⟨Nat.zero_le _, hl, rfl⟩ ?_
  rintro ⟨i, m⟩ ⟨i1, i2, i3⟩
  dsimp only at i1 i2 i3 ⊢
  ((iterate 2 refine sw_seq ?_); refine sw_region ?_; (iterate 4 refine so_1 rfl ?_); refine so_nil ?_; refine sn_then ?_)
  refine sw_if rfl (fun h1 => ?_) (fun h1 => ?_)
  · obtain ⟨gA, oA, rfl⟩ := k3 (by omega)
    have h1' : i < m.length := by omega
    obtain ⟨x, hxd⟩ : ∃ x : List Int, x = [1, 2, 3] ++ List.replicate 29 0 := ⟨_, rfl⟩
    have hx : x.length = 32 := by rw [hxd]; rfl
    have hset := idsC_set i2 hx h1'
    have h32 := len32_set i2 hx i
    have hlen := idsC_len i2
    (refine sw_skip ?_; refine sn_then ?_; refine sw_seq ?_; refine sw_block ?_; refine sw_region ?_; (iterate 3 refine so_1 rfl ?_); refine so_2 rfl (by omega) ?_)
    refine so_know 11 (.agg ⟨u8s x⟩) rfl (by rw [hxd]; rfl) ?_
    refine so_strow 0 (i * 32) rfl rfl rfl rfl rfl rfl (by rw [u8s_len, hx]; rfl) rfl hset rfl (by rw [mulz_eq, Int.toNat_natCast]) ?_ (u8s_one x) ?_
    · rw [u8s_len, hx, hlen]; omega
    (refine so_nil ?_; refine sn_block ?_; refine sn_then ?_; refine sw_region ?_; refine so_1 rfl ?_; refine so_2 rfl (by (unfold I64; omega)) ?_; refine so_1 rfl ?_; refine so_nil ?_)
    refine sn_round (i + 1, m.set i x) ⟨rfl, rfl, trivial⟩ (Ent.refl _) ⟨by dsimp only; omega, h32, by dsimp only; rw [List.length_set]; exact i3⟩ (by dsimp only; omega)
  · (refine sw_exit ?_; refine sn_then_exit ?_; refine sn_loop_exit ?_; refine sn_block_exit ?_)
    refine sn_end rfl .nil (ent_keep 1 [] rfl rfl) ?_
    rfl
/-- Events that were written over. -/
def evX (k : Int) : Ev := ⟨0, 0, .slice none 0 0, [], k, ⟨#[]⟩, ⟨#[]⟩, List.replicate 32 0, .slice none 0 0, []⟩
set_option maxRecDepth 20000 in
set_option maxHeartbeats 4000000 in
theorem OverEvents_D {v : Value} {l : List Ev} (h32 : ∀ e ∈ l, e.id.length = 32 ∧ len32 e.refs) (hd : ∀ e ∈ l, e.deps.length ≤ 1000000 ∧ e.refs.length ≤ 1000000) (hm : l.length ≤ 1000000) : SC Try.prog n_entrepotkit_OverEvents [v] b (rEs v l :: all (evF l) :: F) (fun _ F' => F' = F) := by
  refine enterS F_entrepotkit_OverEvents rfl rfl rfl ?_
  refine sw_fact (fun w H => (H.oat (k := 0) rfl).form) ?_
  rintro ⟨A, c, rfl, k1, k2, k3⟩
  (refine sw_seq ?_; refine sw_region ?_; refine so_1 rfl ?_; refine so_nil ?_; refine sn_then ?_; refine sw_block ?_)
  refine sw_loop (S := Nat × List Ev) (fun s => [(0, .slice A l.length c), (2, .int .i64 (s.1 : Int))]) (fun s => rEn A c l.length s.2 :: all (evF (s.2.drop s.1)) :: F) (fun s => s.1 ≤ l.length ∧ s.2.drop s.1 = l.drop s.1 ∧ s.2.length = l.length ∧ ∀ e ∈ s.2, e.id.length = 32) (fun s => l.length - s.1) (0, l) ⟨rfl, rfl, trivial⟩ (Ent.refl _) ⟨Nat.zero_le _, rfl, rfl, fun e he => (h32 e he).1⟩ ?_
  rintro ⟨i, m⟩ ⟨i1, i2, i3, i4⟩
  dsimp only at i1 i2 i3 i4 ⊢
  ((iterate 2 refine sw_seq ?_); refine sw_region ?_; (iterate 4 refine so_1 rfl ?_); refine so_nil ?_; refine sn_then ?_)
  refine sw_if rfl (fun h1 => ?_) (fun h1 => ?_)
  · obtain ⟨gA, oA, rfl⟩ := k3 (by omega)
    have h1' : i < l.length := by omega
    have h2' : i < m.length := by omega
    have hml : m[i] = l[i] := by
      have := congrArg (·[0]?) i2
      simpa [h1', h2'] using this
    have hmem := List.getElem_mem h1'
    obtain ⟨e32, er⟩ := h32 _ hmem
    obtain ⟨ed, el⟩ := hd _ hmem
    have hdr : m.drop i = l[i] :: m.drop (i + 1) := by rw [← hml]; exact List.drop_eq_getElem_cons h2'
    have hset : spl (evsC m) (i * 39) (evC (evX (-7))) = evsC (m.set i (evX (-7))) := flC_set (ev_len i4) rfl h2'
    have hcm : ∀ j, j < 39 → (evsC m)[i * 39 + j]? = (evC l[i])[j]? := fun j hj => by rw [flC_at (ev_len i4) h2' hj, hml]
    have hlenm : (evsC m).length = m.length * 39 := flC_len (ev_len i4)
    have hdr2 : (m.set i (evX (-7))).drop (i + 1) = m.drop (i + 1) := by rw [List.drop_set_of_lt (by omega)]
    have hdr3 : m.drop (i + 1) = l.drop (i + 1) := by
      have := congrArg (List.drop 1) i2
      rwa [List.drop_drop, List.drop_drop] at this
    generalize l[i] = x at *
    refine sw_ent (G := rZ x.dv x.deps :: rD x.rv x.refs :: rEn (some ⟨gA, oA, none⟩) c l.length m :: all (evF (m.drop (i + 1))) :: F) (by
      rw [hdr]
      exact (ent_keep 2 [1, 0] rfl rfl).trans ((ent_out (A := evF (x :: m.drop (i + 1))) (B := evP x) (C := evF (m.drop (i + 1))) (.refl _)).trans (ent_keep 4 [0, 1, 3, 2] rfl rfl))) ?_
    refine sw_fact (fun w H => (H.oat (k := 0) rfl).form) ?_
    rintro ⟨A1, c1, hdv, _, _, _⟩
    (refine sw_skip ?_; refine sn_then ?_; refine sw_seq ?_; refine sw_block ?_; refine sw_seq ?_; refine sw_region ?_; (iterate 2 refine so_1 rfl ?_); refine so_2 rfl (by omega) ?_; refine so_1 rfl ?_)
    refine so_rd rfl (fun w H => ex_load rfl rfl rfl (by rw [mulz_eq, Int.toNat_natCast, Nat.add_assoc]; exact row_cell (k := 2) rfl ((hcm 2 (by omega)).trans rfl) w H)) rfl ?_
    refine so_call rfl rfl rfl (OverInts_D (v := x.dv) (l := x.deps) ed) ?_
    rintro _ _ rfl
    (refine so_nil ?_; refine sn_then ?_; refine sw_seq ?_; refine sw_region ?_; (iterate 2 refine so_1 rfl ?_); refine so_2 rfl (by omega) ?_; refine so_1 rfl ?_)
    refine so_rd rfl (fun w H => ex_load rfl rfl rfl (by rw [mulz_eq, Int.toNat_natCast, Nat.add_assoc]; exact row_cell (k := 1) rfl ((hcm 38 (by omega)).trans (by rw [← nth_eq]; exact evC_rv e32)) w H)) rfl ?_
    refine so_call rfl rfl rfl (OverIDs_D (v := x.rv) (l := x.refs) er el) ?_
    rintro _ _ rfl
    (refine so_nil ?_; refine sn_then ?_; refine sw_region ?_; (iterate 3 refine so_1 rfl ?_); refine so_2 rfl (by omega) ?_)
    refine so_know 23 (.agg ⟨evC (evX (-7))⟩) rfl rfl ?_
    refine so_strow 0 (i * 39) rfl rfl rfl rfl rfl rfl rfl rfl hset rfl (by rw [mulz_eq, Int.toNat_natCast]) (by rw [hlenm]; have : (evC (evX (-7))).length = 39 := rfl; omega) (evC_one rfl rfl) ?_
    (refine so_nil ?_; refine sn_block ?_; refine sn_then ?_; refine sw_region ?_; refine so_1 rfl ?_; refine so_2 rfl (by (unfold I64; omega)) ?_; refine so_1 rfl ?_; refine so_nil ?_)
    refine sn_round (i + 1, m.set i (evX (-7))) ⟨rfl, rfl, trivial⟩ (by simp only [hdr2]; exact Ent.refl _) ⟨by dsimp only; omega, by dsimp only; rw [hdr2, hdr3], by dsimp only; rw [List.length_set]; exact i3, fun e he => by
      rcases List.mem_or_eq_of_mem_set he with h | rfl
      · exact i4 e h
      · rfl⟩ (by dsimp only; omega)
  · (refine sw_exit ?_; refine sn_then_exit ?_; refine sn_loop_exit ?_; refine sn_block_exit ?_)
    refine sn_end rfl .nil (ent_keep 2 [] rfl rfl) ?_
    rfl
theorem dotsC_fl (l : List (Int × Int)) : dotsC l = flC (fun d : Int × Int => [.int .i64 d.1, .int .i64 d.2]) l := by
  induction l with
  | nil => rfl
  | cons x l ih => simp only [dotsC, flC, ih]; rfl
end
end Go.Proofs.Ytajbpdmhpcpkgaa
/- Events and what is held, continued: which are too many. Conditions: none. -/
namespace Go.Proofs.Ytajbpdmhpcpkgaa
open Go.Eng Go.RowKit Go.WideMaps

def LE (e : Ev) : Prop := e.deps.length ≤ 20 ∧ e.refs.length ≤ 300 ∧ e.repo.size ≤ 200 ∧ e.tag.size ≤ 200
section
variable {b : World} {F : List SP}
set_option maxRecDepth 20000 in
set_option maxHeartbeats 2000000 in
theorem LongEvents_S {v : Value} {l : List Ev} {many : Nat} (hl : ∀ w, Sat b F w → EL w v l) (h32 : ∀ e ∈ l, e.id.length = 32) (hm : many ≤ 1000) :
    SC Try.prog n_entrepotkit_LongEvents [v, .int .i64 many] b F (fun v F' => ∃ q : Bool, (q = false → l.length ≤ many ∧ ∀ e ∈ l, LE e) ∧ v = .bool q ∧ F' = F) := by
  refine enterS F_entrepotkit_LongEvents rfl rfl rfl ?_
  refine sw_fact (fun w H => sl_form (hl w H).sl) ?_
  rintro ⟨A, c, rfl, _, _, _, k4, _⟩
  (refine sw_seq ?_; refine sw_region ?_; refine so_1 rfl ?_; refine so_nil ?_; refine sn_then ?_; refine sw_seq ?_; refine sw_region ?_; refine so_1 rfl ?_; refine so_nil ?_; refine sn_then ?_; (iterate 2 refine sw_seq ?_); refine sw_region ?_; refine so_1 rfl ?_; refine so_nil ?_; refine sn_then ?_; refine sw_block ?_)
  refine sw_loop (S := Nat × Nat) (fun s => [(0, .slice A l.length c), (1, .int .i64 many), (5, .int .i64 (s.2 : Int)), (6, .int .i64 (s.1 : Int))]) (fun _ => F) (fun s => s.1 ≤ l.length ∧ s.1 ≤ many + 1 ∧ s.2 ≤ s.1 * 300 ∧ ∀ k (hk : k < l.length), k < s.1 → LE l[k]) (fun s => l.length - s.1) (0, 0) ⟨rfl, rfl, rfl, rfl, trivial⟩ (Ent.refl _) ⟨Nat.zero_le _, Nat.zero_le _, Nat.zero_le _, fun k _ h => absurd h (Nat.not_lt_zero k)⟩ ?_
  rintro ⟨i, r⟩ ⟨i1, i2, i3, i4⟩
  dsimp only at i1 i2 i3 i4 ⊢
  ((iterate 2 refine sw_seq ?_); refine sw_region ?_; (iterate 5 refine so_1 rfl ?_))
  by_cases h1 : i < l.length
  · refine so_know 11 (.bool true) rfl (congrArg Value.bool (decide_eq_true (by omega))) ?_
    ((iterate 4 refine so_1 rfl ?_); refine so_nil ?_; refine sn_then ?_)
    refine sw_if rfl (fun h2 => ?_) (fun h2 => ?_)
    · obtain ⟨gg, oo, rfl⟩ := k4 (by omega)
      have hmem := List.getElem_mem h1
      have hc : ∀ w, Sat b F w → ∀ j, j < 39 → w.cell? ⟨gg, oo + i * 39 + j, none⟩ = (evC l[i])[j]? := fun w H j hj => ev_cell (hl w H) h32 h1 hj
      have her : ∀ w, Sat b F w → ER w l[i] := fun w H => (hl w H).er _ hmem
      have hx32 := h32 _ hmem
      have hnext : LE l[i] → ∀ k (hk : k < l.length), k < i + 1 → LE l[k] := fun h k hk hlt => by
        by_cases e : k = i
        · subst e; exact h
        · exact i4 k hk (by omega)
      generalize l[i] = x at *
      (refine sw_skip ?_; refine sn_then ?_; refine sw_seq ?_; refine sw_block ?_; (iterate 2 refine sw_seq ?_); refine sw_region ?_; (iterate 2 refine so_1 rfl ?_); refine so_2 rfl (by omega) ?_)
      refine so_rd rfl (fun w H => ex_loadN (cs := evC x) rfl rfl rfl (evC_len hx32) (fun j hj => by rw [evC_len hx32] at hj; rw [mulz_eq, Int.toNat_natCast]; exact hc w H j hj)) rfl ?_
      refine so_call rfl rfl rfl (LongEvent_S hx32 her) ?_
      rintro _ _ ⟨q, hq, rfl, rfl⟩
      cases q with
      | true =>
        (refine so_nil ?_; refine sn_then ?_; refine sw_cond_t rfl ?_; refine sw_seq ?_; refine sw_region ?_; refine so_1 rfl ?_; refine so_nil ?_; refine sn_then ?_; refine sw_ret ?_; refine sn_then_ret ?_; refine sn_block_ret ?_; refine sn_then_ret ?_; refine sn_loop_ret ?_; refine sn_block_ret ?_; refine sn_then_ret ?_)
        refine sn_ret rfl (.tmp rfl .nil) (Ent.refl _) ?_
        exact ⟨true, (fun h => by cases h), rfl, rfl⟩
      | false =>
        have hle : LE x := hq rfl
        have hrl := hle.2.1
        (refine so_nil ?_; refine sn_then ?_; refine sw_cond_f rfl ?_; refine sw_skip ?_; refine sn_then ?_; refine sw_region ?_; (iterate 3 refine so_1 rfl ?_); refine so_2 rfl (by omega) ?_; refine so_1 rfl ?_)
        refine so_rd rfl (fun w H => ex_load rfl rfl rfl (by rw [mulz_eq, Int.toNat_natCast]; exact (hc w H 38 (by omega)).trans (by rw [← nth_eq]; exact evC_rv hx32))) rfl ?_
        refine so_fact (fun w H => sl_form (her w H).rv) ?_
        rintro ⟨A2, c2, hrv, _, _, _, _, _⟩
        refine so_know 28 (.slice A2 x.refs.length c2) rfl hrv ?_
        (refine so_1 rfl ?_; refine so_2 rfl (by (unfold I64; omega)) ?_; refine so_1 rfl ?_; refine so_nil ?_; refine sn_block ?_; refine sn_then ?_; refine sw_region ?_; refine so_1 rfl ?_; refine so_2 rfl (by (unfold I64; omega)) ?_; refine so_1 rfl ?_; refine so_nil ?_)
        refine sn_round (i + 1, r + x.refs.length) ⟨rfl, rfl, by simp only [look]; exact congrArg some (congrArg (Value.int .i64) (by omega)), rfl, trivial⟩ (Ent.refl _) ⟨h1, by dsimp only; omega, by dsimp only; omega, hnext hle⟩ (by dsimp only; omega)
    · (refine sw_exit ?_; refine sn_then_exit ?_; refine sn_loop_exit ?_; refine sn_block_exit ?_; refine sn_then ?_; refine sw_seq ?_; refine sw_region ?_; (iterate 5 refine so_1 rfl ?_))
      refine so_know 35 (.bool true) rfl (congrArg Value.bool (decide_eq_true (by omega))) ?_
      ((iterate 4 refine so_1 rfl ?_); refine so_nil ?_; refine sn_then ?_; refine sw_ret ?_)
      refine sn_ret rfl (.tmp rfl .nil) (Ent.refl _) ?_
      exact ⟨true, (fun h => by cases h), rfl, rfl⟩
  · refine so_know 11 (.bool false) rfl (congrArg Value.bool (decide_eq_false (by omega))) ?_
    ((iterate 4 refine so_1 rfl ?_); refine so_nil ?_; refine sn_then ?_; refine sw_cond_f rfl ?_; refine sw_exit ?_; refine sn_then_exit ?_; refine sn_loop_exit ?_; refine sn_block_exit ?_; refine sn_then ?_; refine sw_seq ?_; refine sw_region ?_; (iterate 5 refine so_1 rfl ?_))
    by_cases h2 : l.length ≤ many
    · refine so_know 35 (.bool false) rfl (congrArg Value.bool (decide_eq_false (by omega))) ?_
      ((iterate 4 refine so_1 rfl ?_); refine so_nil ?_; refine sn_then ?_; refine sw_ret ?_)
      refine sn_ret rfl (.tmp rfl .nil) (Ent.refl _) ?_
      refine ⟨_, fun _ => ⟨h2, fun e he => ?_⟩, rfl, rfl⟩
      obtain ⟨k, hk, rfl⟩ := List.mem_iff_getElem.1 he
      exact i4 k hk (by omega)
    · refine so_know 35 (.bool true) rfl (congrArg Value.bool (decide_eq_true (by omega))) ?_
      ((iterate 4 refine so_1 rfl ?_); refine so_nil ?_; refine sn_then ?_; refine sw_ret ?_)
      refine sn_ret rfl (.tmp rfl .nil) (Ent.refl _) ?_
      exact ⟨true, (fun h => by cases h), rfl, rfl⟩
end
end Go.Proofs.Ytajbpdmhpcpkgaa
/- Events and what is held, as arguments: read. Conditions: none. -/
namespace Go.Proofs.Ytajbpdmhpcpkgaa
open Go Go.Eng Go.RowKit

def isStrB (P : Program) (t : TypeId) : Bool := match P.underlying t with
  | some (.struct _) => true
  | _ => false
theorem agg_of_okWide {P : Program} {t : TypeId} {W : World} {r : Reach} {b0 : Nat} {v : Value} (ht : isStrB P t = true) (h : Value.okWide P W r b0 t v) : ∃ cs : Array Value, v = .agg cs := by
  unfold isStrB at ht
  split at ht
  · rename_i fs hf
    simp only [Value.okWide, hf] at h
    obtain ⟨cs, h1, _⟩ := h
    exact ⟨cs, h1⟩
  · cases ht
theorem flat_fl {α β : Type} {g : α → β} {f : β → List Value} : ∀ {ess : List (List Value)} {xs : List α}, ess.length = xs.length → (∀ (i : Nat) e a, ess[i]? = some e → xs[i]? = some a → e = f (g a)) → ess.flatten = flC f (xs.map g)
  | [], [], _, _ => rfl
  | [], _ :: _, h, _ => by simp at h
  | _ :: _, [], h, _ => by simp at h
  | e :: ess, a :: xs, h, hh => by
    rw [List.flatten_cons, hh 0 e a rfl rfl, flat_fl (by simpa using h) fun i e a h1 h2 => hh (i + 1) e a h1 h2]; rfl
theorem rdL_flat {α β : Type} {R : Rdg α} {g : α → β} {f : β → List Value} {p : β → Prop} {W : World} (hR : ∀ cs x, R W cs x → cs = f (g x) ∧ p (g x)) {sz : Nat} {cs : List Value} {x : Value × List α} (h : rdL sz R W cs x) : cs = [x.1] ∧ SL W sz x.1 (x.2.map g).length (flC f (x.2.map g)) ∧ ∀ y ∈ x.2.map g, p y := by
  obtain ⟨hv, ess, e1, e2, e3, e4⟩ := h
  have hf := flat_fl (f := f) (g := g) e1 fun i e a h1 h2 => (hR e a (e4 i e a h1 h2)).1
  rw [hf] at e3
  refine ⟨hv, by rw [List.length_map]; exact e3, fun y hy => ?_⟩
  obtain ⟨a, ha, rfl⟩ := List.mem_map.1 hy
  obtain ⟨i, hi, rfl⟩ := List.mem_iff_getElem.1 ha
  exact (hR _ _ (e4 i _ _ (List.getElem?_eq_getElem (by omega)) (List.getElem?_eq_getElem hi))).2
theorem rdI_list {W : World} {k : IntKind} {cs : List Value} {x : Value × List Int} (h : rdL 1 (rdI k) W cs x) : cs = [x.1] ∧ VL (Value.int k) W x.1 x.2 ∧ ∀ n ∈ x.2, (Lit.int k n).wf = true := by
  obtain ⟨h1, h2, h3⟩ := rdL_flat (g := id) (f := fun n => [Value.int k n]) (p := fun n => (Lit.int k n).wf = true) (fun cs x hx => ⟨hx.1, hx.2⟩) h
  rw [List.map_id] at h2 h3
  have e : ∀ l : List Int, flC (fun x : Int => [Value.int k x]) l = l.map (Value.int k) := fun l => by
    induction l with
    | nil => rfl
    | cons x l ih => simp only [flC, ih]; rfl
  rw [e] at h2
  exact ⟨h1, h2, h3⟩
theorem rdID_list {W : World} {cs : List Value} {x : Value × List (List Int)} (h : rdL 32 (Go.Eng.rdA 32 .u8) W cs x) : cs = [x.1] ∧ SL W 32 x.1 x.2.length (idsC x.2) ∧ ∀ y ∈ x.2, idOk y := by
  obtain ⟨h1, h2, h3⟩ := rdL_flat (g := id) (f := u8s) (p := idOk) (fun cs x hx => ⟨hx.1, hx.2⟩) h
  rw [List.map_id] at h2 h3
  rw [idsC_fl]
  exact ⟨h1, h2, h3⟩
abbrev rdEv : Rdg ((Int × Int) × (Value × List Int) × Int × ByteArray × ByteArray × List Int × (Value × List (List Int))) :=
  rdN 2 (rdN 1 (rdI .i64) (rdI .i64)) (rdN 1 (rdL 1 (rdI .i64)) (rdN 1 (rdI .i64) (rdN 1 rdS (rdN 1 rdS (rdN 32 (Go.Eng.rdA 32 .u8) (rdL 32 (Go.Eng.rdA 32 .u8)))))))
def evOf (x : (Int × Int) × (Value × List Int) × Int × ByteArray × ByteArray × List Int × (Value × List (List Int))) : Ev :=
  ⟨x.1.1, x.1.2, x.2.1.1, x.2.1.2, x.2.2.1, x.2.2.2.1, x.2.2.2.2.1, x.2.2.2.2.2.1, x.2.2.2.2.2.2.1, x.2.2.2.2.2.2.2⟩
theorem i64wf' {x : Int} (h : (Lit.int .i64 x).wf = true) : I64 x := (i64wf x).1 h
theorem cut_eq {n : Nat} {cs a c : List Value} (h1 : cs.take n = a) (h2 : cs.drop n = c) : cs = a ++ c := by rw [← h1, ← h2, List.take_append_drop]
theorem ev_of_rd {W : World} {cs : List Value} {x} (h : rdEv W cs x) : cs = evC (evOf x) ∧ EW (evOf x) ∧ ER W (evOf x) := by
  obtain ⟨h1, h2, h3, h4, h5, h6, h7⟩ := h
  obtain ⟨⟨a1, a2⟩, a3, a4⟩ := h1
  obtain ⟨b1, b2, b3⟩ := rdI_list h2
  obtain ⟨c1, c2⟩ := h3
  obtain ⟨d1, d2⟩ := h4
  obtain ⟨e1, e2⟩ := h5
  obtain ⟨f1, f2, f3⟩ := h6
  obtain ⟨g1, g2, g3⟩ := rdID_list h7
  refine ⟨?_, ⟨⟨f2, f3⟩, ⟨a2, a4⟩, g3, i64wf' c2, fun y hy => i64wf' (b3 y hy), d2, e2⟩, ⟨b2, g2⟩⟩
  exact cut_eq (cut_eq a1 a3) (cut_eq b1 (cut_eq c1 (cut_eq d1 (cut_eq e1 (cut_eq f1 g1)))))
/-- An event, as an argument. -/
structure EA (W : World) (v : Value) (e : Ev) : Prop where
  eq : v = evV e
  ew : EW e
  er : ER W e
theorem ea_of_rd {W : World} {cs : Array Value} {x} (h : rdEv W (Value.agg cs).cells.toList x) : EA W (.agg cs) (evOf x) := by
  obtain ⟨h1, h2, h3⟩ := ev_of_rd h
  refine ⟨?_, h2, h3⟩
  have h4 : cs.toList = evC (evOf x) := h1
  rw [evV, ← h4]
/-- A list of events; a list of what is held. -/
structure EAs (W : World) (v : Value) (l : List Ev) : Prop where
  el : EL W v l
  ew : ∀ e ∈ l, EW e
theorem es_of_rd {W : World} {v : Value} {x : Value × List _} (h : rdL 39 rdEv W [v] x) : EAs W v (x.2.map evOf) := by
  obtain ⟨h1, h2, h3⟩ := rdL_flat (p := fun e => EW e ∧ ER W e) (fun cs x hx => ev_of_rd hx) h
  simp only [List.cons.injEq, and_true] at h1
  subst h1
  exact ⟨⟨h2, fun m hm => (h3 m hm).2⟩, fun m hm => (h3 m hm).1⟩
abbrev rdWn : Rdg (((Int × Int) × (Value × List Int) × Int × ByteArray × ByteArray × List Int × (Value × List (List Int))) × Int) := rdN 39 rdEv (rdI .i64)
def wnOf (x : ((Int × Int) × (Value × List Int) × Int × ByteArray × ByteArray × List Int × (Value × List (List Int))) × Int) : Wn := ⟨0, evOf x.1, x.2⟩
structure WAs (W : World) (v : Value) (l : List Wn) : Prop where
  wl : WL W v l
  ew : ∀ e ∈ l, EW e.e
  src : ∀ e ∈ l, I64 e.src
theorem ws_of_rd {W : World} {v : Value} {x : Value × List _} (h : rdL 40 rdWn W [v] x) : WAs W v (x.2.map wnOf) := by
  obtain ⟨h1, h2, h3⟩ := rdL_flat (g := wnOf) (f := waC) (p := fun w => EW w.e ∧ ER W w.e ∧ I64 w.src) (fun cs x hx => by
    obtain ⟨hx1, hx2, hx3⟩ := hx
    obtain ⟨h1, h2, h3⟩ := ev_of_rd hx1
    exact ⟨cut_eq h1 hx2, h2, h3, i64wf' hx3⟩) h
  simp only [List.cons.injEq, and_true] at h1
  subst h1
  exact ⟨⟨h2, fun m hm => (h3 m hm).2.1⟩, fun m hm => (h3 m hm).1, fun m hm => (h3 m hm).2.2⟩
theorem ER.ext {w w' : World} {e : Ev} (h : ER w e) (x : Ext w w') : ER w' e := ⟨h.dv.ext x, h.rv.ext x⟩
theorem WL.ext {w w' : World} {v : Value} {l : List Wn} (h : WL w v l) (x : Ext w w') : WL w' v l := ⟨h.sl.ext x, fun m hm => (h.er m hm).ext x⟩
theorem EL.ext {w w' : World} {v : Value} {l : List Ev} (h : EL w v l) (x : Ext w w') : EL w' v l := ⟨h.sl.ext x, fun m hm => (h.er m hm).ext x⟩
end Go.Proofs.Ytajbpdmhpcpkgaa
