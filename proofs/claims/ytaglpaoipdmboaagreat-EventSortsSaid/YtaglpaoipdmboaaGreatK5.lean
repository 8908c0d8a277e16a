/- Queues, part one: dots as keys of maps; how what is held lies in memory. Conditions: none. -/
import Derived.Test.YtaglpaoipdmboaaGreatK4
import Derived.Test.YtaglpaoipdmboaaGreatK3
import Derived.Test.YtaglpaoipdmboaaGreatK2
import Derived.Laws.RangeAny
namespace Go.Proofs.YtaglpaoipdmboaaGreat
open Go.Eng Go.RowKit Go.WideMaps

/-- An event; what is held. -/
structure Ev where
  r : Int
  n : Int
  dv : Value
  deps : List Int
  kind : Int
  repo : ByteArray
  tag : ByteArray
  id : List Int
  rv : Value
  refs : List (List Int)
structure Wn where
  g : Nat
  e : Ev
  src : Int
def evC (e : Ev) : List Value := .int .i64 e.r :: .int .i64 e.n :: e.dv :: .int .i64 e.kind :: .string e.repo :: .string e.tag :: (u8s e.id ++ [e.rv])
abbrev evV (e : Ev) : Value := .agg ⟨evC e⟩
def wsC (e : Ev) (src : Int) : List Value := evC e ++ [.int .i64 src]
abbrev waC (w : Wn) : List Value := wsC w.e w.src
abbrev ints (l : List Int) : List Value := l.map (Value.int .i64)
abbrev rZ (v : Value) (l : List Int) : SP := row t_int 1 v l.length (ints l)
abbrev rD (v : Value) (l : List (List Int)) : SP := row t_api_ID 32 v l.length (idsC l)
abbrev dotOk (p : Int × Int) : Prop := (Lit.int .i64 p.1).wf = true ∧ (Lit.int .i64 p.2).wf = true
section
variable {b : World} {F : List SP} {gq gm : Nat} {v h : Value} {V : List Int} {R H : List Wn}
end
end Go.Proofs.YtaglpaoipdmboaaGreat
/- Queues, part two: copies; numbers; what fits. Conditions: not too many. -/
namespace Go.Proofs.YtaglpaoipdmboaaGreat
open Go.Eng Go.RowKit Go.WideMaps

theorem vlZ {b : World} {F : List SP} {v : Value} {l : List Int} {k : Nat} (hk : nth F k = some (rZ v l)) : ∀ w, Sat b F w → VL (Value.int .i64) w v l := fun w H => by
  have := (H.oat hk).sl
  exact this
section
variable {b : World} {F : List SP} {va : Value}
theorem Clone_ints {xs : List Int} (ha : ∀ w, Sat b F w → VL (Value.int .i64) w va xs) (hn : xs.length ≤ 1000000) : SC Tryz.prog n_slices_Clone_sl_int_int [va] b F (fun v F' => F' = rZ v xs :: F) := by
  refine enterS F_slices_Clone_sl_int_int rfl rfl rfl ?_
  refine sw_fact (fun w H => (ha w H).form) ?_
  rintro ⟨A, c, rfl, h1, h2, h3, h4⟩
  cases A with
  | none =>
    have hc := h3 rfl
    have hx : xs = [] := List.length_eq_zero_iff.1 (by omega)
    subst hx
    (refine sw_seq ?_; refine sw_region ?_; refine so_1 rfl ?_; refine so_nil ?_; refine sn_then ?_; (iterate 2 refine sw_seq ?_); refine sw_region ?_; (iterate 2 refine so_1 rfl ?_); refine so_nil ?_; refine sn_then ?_; refine sw_cond_t rfl ?_; refine sw_seq ?_; refine sw_region ?_; refine so_1 rfl ?_; refine so_nil ?_; refine sn_then ?_; refine sw_ret ?_; refine sn_then_ret ?_)
    refine sn_ret rfl (.tmp rfl .nil) (ent_row_nil t_int 1 rfl) ?_
    rfl
  | some a =>
    (refine sw_seq ?_; refine sw_region ?_; refine so_1 rfl ?_; refine so_nil ?_; refine sn_then ?_; (iterate 2 refine sw_seq ?_); refine sw_region ?_; (iterate 2 refine so_1 rfl ?_); refine so_nil ?_; refine sn_then ?_; refine sw_cond_f rfl ?_; refine sw_skip ?_; refine sn_then ?_; refine sw_seq ?_; refine sw_region ?_)
    refine so_lit [] rfl rfl rfl rfl rfl rfl rfl rfl rfl fun g0 => ?_
    refine so_ent (ent_blk_row (n := 0) (sz := 1) rfl rfl (by decide) 0 rfl rfl) ?_
    (refine so_1 rfl ?_)
    refine so_append 0 rfl rfl rfl rfl rfl rfl rfl rfl rfl (up ha (ent_keep 1 [] rfl rfl)) ints_one (by omega) (fun _ => rfl) fun v6 => ?_
    (refine so_1 rfl ?_; refine so_nil ?_; refine sn_then ?_; refine sw_ret ?_)
    refine sn_ret rfl (.tmp rfl .nil) (Ent.refl _) ?_
    show row t_int 1 v6 _ _ :: F = rZ v6 xs :: F
    simp [rZ, ints]
def numOk (V : List Int) : Prop := ∀ x ∈ V, 0 ≤ x ∧ x ≤ 1048576
instance (V : List Int) : Decidable (numOk V) := by unfold numOk; infer_instance
end
end Go.Proofs.YtaglpaoipdmboaaGreat
/- Queues, part three: copies of digests and of pointers; an event of its own. Conditions: not too many. -/
namespace Go.Proofs.YtaglpaoipdmboaaGreat
open Go.Eng Go.RowKit Go.WideMaps

theorem evC_len {e : Ev} (h : e.id.length = 32) : (evC e).length = 39 := by simp [evC, h]
theorem evC_rv {e : Ev} (h : e.id.length = 32) : nth (evC e) 38 = some e.rv := by
  rw [nth_eq]; simp only [evC, List.getElem?_cons_succ]
  rw [List.getElem?_append_right (by simp [h]), u8s_len, h]; rfl
theorem set_at {α : Type} (a : List α) (x y : α) (m : List α) : (a ++ x :: m).set a.length y = a ++ y :: m := by
  induction a with
  | nil => rfl
  | cons c a ih => simp only [List.cons_append, List.length_cons, List.set_cons_succ, ih]
theorem evC_one {e : Ev} (h1 : e.dv.oneCell' = true) (h2 : e.rv.oneCell' = true) : ∀ u ∈ evC e, u.oneCell' = true := by
  intro u hu
  simp only [evC, List.mem_cons, List.mem_append, List.not_mem_nil, or_false] at hu
  rcases hu with rfl | rfl | rfl | rfl | rfl | rfl | hu | rfl <;> first | rfl | assumption | exact u8s_one _ u hu
theorem sl_form {w : World} {sz n : Nat} {v : Value} {cs : List Value} (h : SL w sz v n cs) : ∃ A c, v = .slice A n c ∧ n ≤ c ∧ c ≤ 9223372036854775807 ∧ (A = none → c = 0) ∧ (0 < n → ∃ bk off, A = some ⟨bk, off, none⟩) ∧ cs.length = n * sz := by
  obtain ⟨A, c, h1, h2, h3, h4, h5, h6⟩ := h
  exact ⟨A, c, h1, h3, h4, h5, fun hp => by obtain ⟨bk, off, hA, _⟩ := h6 hp; exact ⟨bk, off, hA⟩, h2⟩
theorem idsC_one (l : List (List Int)) : ∀ u ∈ idsC l, u.oneCell' = true := by
  induction l with
  | nil => intro u hu; simp [idsC] at hu
  | cons a l ih =>
    intro u hu
    rcases List.mem_append.1 hu with hu | hu
    · exact u8s_one _ u hu
    · exact ih u hu
section
variable {b : World} {F : List SP} {va : Value}
theorem Clone_ids {l : List (List Int)} (ha : ∀ w, Sat b F w → SL w 32 va l.length (idsC l)) (hn : l.length ≤ 1000000) : SC Tryz.prog n_slices_Clone_sl_api_ID_api_ID [va] b F (fun v F' => F' = rD v l :: F) := by
  refine enterS F_slices_Clone_sl_api_ID_api_ID rfl rfl rfl ?_
  refine sw_fact (fun w H => sl_form (ha w H)) ?_
  rintro ⟨A, c, rfl, h1, h2, h3, h4, _⟩
  cases A with
  | none =>
    have hc := h3 rfl
    have hx : l = [] := List.length_eq_zero_iff.1 (by omega)
    subst hx
    (refine sw_seq ?_; refine sw_region ?_; refine so_1 rfl ?_; refine so_nil ?_; refine sn_then ?_; (iterate 2 refine sw_seq ?_); refine sw_region ?_; (iterate 2 refine so_1 rfl ?_); refine so_nil ?_; refine sn_then ?_; refine sw_cond_t rfl ?_; refine sw_seq ?_; refine sw_region ?_; refine so_1 rfl ?_; refine so_nil ?_; refine sn_then ?_; refine sw_ret ?_; refine sn_then_ret ?_)
    refine sn_ret rfl (.tmp rfl .nil) (ent_row_nil t_api_ID 32 rfl) ?_
    rfl
  | some a =>
    (refine sw_seq ?_; refine sw_region ?_; refine so_1 rfl ?_; refine so_nil ?_; refine sn_then ?_; (iterate 2 refine sw_seq ?_); refine sw_region ?_; (iterate 2 refine so_1 rfl ?_); refine so_nil ?_; refine sn_then ?_; refine sw_cond_f rfl ?_; refine sw_skip ?_; refine sn_then ?_; refine sw_seq ?_; refine sw_region ?_)
    refine so_lit0 rfl rfl rfl rfl rfl fun g0 => ?_
    refine so_ent (ent_blk_row (n := 0) (sz := 32) rfl rfl (by decide) 0 rfl rfl) ?_
    (refine so_1 rfl ?_)
    refine so_append 0 rfl rfl rfl rfl rfl rfl rfl rfl rfl (up ha (ent_keep 1 [] rfl rfl)) (idsC_one l) (by omega) (fun _ => rfl) fun v6 => ?_
    (refine so_1 rfl ?_; refine so_nil ?_; refine sn_then ?_; refine sw_ret ?_)
    refine sn_ret rfl (.tmp rfl .nil) (Ent.refl _) ?_
    show row t_api_ID 32 v6 _ _ :: F = rD v6 l :: F
    simp [rD]
end
end Go.Proofs.YtaglpaoipdmboaaGreat
/- Queues, part four: an event of its own; which event stands ahead. Conditions: not too many. -/
namespace Go.Proofs.YtaglpaoipdmboaaGreat
open Go.Eng Go.RowKit Go.WideMaps

/-- The same, with rows of its own. -/
def Ev.own (e : Ev) (dv rv : Value) : Ev := { e with dv := dv, rv := rv }
section
variable {b : World} {F : List SP}
end
end Go.Proofs.YtaglpaoipdmboaaGreat
/- The heap over any kind of element: the plain law of container/heap (printed by heapgen.py). Conditions: 'HLaw': the order is one. -/
namespace Go.Heap

class HOrd (α : Type) where
  lt : α → α → Bool
  d : α
class HLaw (α : Type) [HOrd α] : Prop where
  asym : ∀ x y : α, HOrd.lt x y = true → ¬ HOrd.lt y x = true
  trans : ∀ x y z : α, ¬ HOrd.lt y x = true → ¬ HOrd.lt z y = true → ¬ HOrd.lt z x = true
end Go.Heap
/- Queues, part five: which event stands ahead; what is held, read; the heap's methods. Conditions: not too many. -/
namespace Go.Proofs.YtaglpaoipdmboaaGreat
open Go.Eng Go.RowKit Go.WideMaps Go.Heap

abbrev ltE (a c : Ev) : Bool := lessL a.r a.n a.deps c.r c.n c.deps
instance : HOrd Wn := ⟨fun a c => ltE a.e c.e, ⟨0, ⟨0, 0, .slice none 0 0, [], 0, ⟨#[]⟩, ⟨#[]⟩, [], .slice none 0 0, []⟩, 0⟩⟩
theorem lt_Wn (a c : Wn) : HOrd.lt a c = ltE a.e c.e := rfl
instance : HLaw Wn where
  asym := fun x y h1 h2 => by
    rw [lt_Wn, ltE, lessL, decide_eq_true_eq] at h1 h2; omega
  trans := fun x y z h1 h2 h3 => by
    rw [lt_Wn, ltE, lessL, decide_eq_true_eq] at h1 h2 h3; omega
section
variable {b : World} {F : List SP} {k : Nat} {H : List Wn} {e : Wn}
end
section
variable {b : World} {F : List SP}
variable {A : Option Addr} {c n : Nat} {R H : List Wn}
end
end Go.Proofs.YtaglpaoipdmboaaGreat
/- Queues, part six: the heap's methods: Swap, Push, Pop. Conditions: not too many. -/
namespace Go.Proofs.YtaglpaoipdmboaaGreat
open Go.Eng Go.RowKit Go.WideMaps Go.Heap

section
variable {b : World} {F : List SP} {A : Option Addr} {c n : Nat} {R H : List Wn}
end
end Go.Proofs.YtaglpaoipdmboaaGreat
/- Queues, part seven: the heap's methods: Push, Pop. Conditions: not too many. -/
namespace Go.Proofs.YtaglpaoipdmboaaGreat
open Go.Eng Go.RowKit Go.WideMaps Go.Heap

/-- A block in which a slice's header lies. -/
structure HC (cs : Value → List Value) (off : Nat) : Prop where
  rd : ∀ v, nth (cs v) off = some v
  wr : ∀ u v, stO (cs u) off v = some (cs v)
section
variable {b : World} {F : List SP} {A : Option Addr} {c n gh t0 off : Nat} {R : List Wn} {cs : Value → List Value} {x : Wn}
end
end Go.Proofs.YtaglpaoipdmboaaGreat
/- Queues, part eight: the heap: up, down. Conditions: not too many. -/
namespace Go.Proofs.YtaglpaoipdmboaaGreat
open Go.Eng Go.RowKit Go.WideMaps Go.Heap

section
variable {b : World} {F : List SP} {A : Option Addr} {c n gh t0 off : Nat} {l H : List Wn} {cs : Value → List Value}
end
end Go.Proofs.YtaglpaoipdmboaaGreat
/- Queues, part nine: the heap: down. Conditions: not too many. -/
namespace Go.Proofs.YtaglpaoipdmboaaGreat
open Go.Eng Go.RowKit Go.WideMaps Go.Heap

section
variable {b : World} {F : List SP} {A : Option Addr} {c n gh t0 off : Nat} {l H : List Wn} {cs : Value → List Value}
end
end Go.Proofs.YtaglpaoipdmboaaGreat
/- Queues, part ten: the heap: Push, Pop, Remove. Conditions: not too many. -/
namespace Go.Proofs.YtaglpaoipdmboaaGreat
open Go.Eng Go.RowKit Go.WideMaps Go.Heap

section
variable {b : World} {F : List SP} {A : Option Addr} {c n gh t0 off : Nat} {l H : List Wn} {cs : Value → List Value} {x : Wn}
end
end Go.Proofs.YtaglpaoipdmboaaGreat
/- Queues, part eleven: the plain law of heap.Remove. Conditions: none. -/
namespace Go.Proofs.YtaglpaoipdmboaaGreat
open Go.Heap

end Go.Proofs.YtaglpaoipdmboaaGreat
/- Queues, part twelve: all that is held, in order. Conditions: not too many. -/
namespace Go.Proofs.YtaglpaoipdmboaaGreat
open Go.Eng Go.RowKit Go.WideMaps Go.Heap

theorem hc1 : HC (fun v => [v]) 0 := ⟨fun _ => rfl, fun _ _ => rfl⟩
section
variable {b : World} {F : List SP} {R H : List Wn} {h : Value}
end
end Go.Proofs.YtaglpaoipdmboaaGreat
/- Queues, part thirteen: how a queue stands: Vector, ripe, Ripe. Conditions: not too many. -/
namespace Go.Proofs.YtaglpaoipdmboaaGreat
open Go.Eng Go.RowKit Go.WideMaps Go.Heap

section
variable {b : World} {F : List SP} {gq gm : Nat} {v h : Value} {V : List Int} {R H : List Wn} {e : Wn}
end
end Go.Proofs.YtaglpaoipdmboaaGreat
/- Queues, part fourteen: Ripe. Conditions: not too many. -/
namespace Go.Proofs.YtaglpaoipdmboaaGreat
open Go.Eng Go.RowKit Go.WideMaps Go.Heap

section
variable {b : World} {F : List SP} {gq gm : Nat} {v h : Value} {V : List Int} {R H : List Wn}
end
end Go.Proofs.YtaglpaoipdmboaaGreat
/- Events and what is held: lists of them in memory; compared, copied, written over. Conditions: not too many. -/
namespace Go.Proofs.YtaglpaoipdmboaaGreat
open Go.Eng Go.RowKit Go.WideMaps

theorem i64wf (x : Int) : (Lit.int .i64 x).wf = true ↔ I64 x := by
  have h1 : IntKind.i64.min = -9223372036854775808 := by decide
  have h2 : IntKind.i64.max = 9223372036854775807 := by decide
  simp [Lit.wf, h1, h2, I64]
def nS : Value := .slice none 0 0
def nE (e : Ev) : Ev := e.own nS nS
/-- Cells one behind the other. -/
def flC {α : Type} (f : α → List Value) : List α → List Value
  | [] => []
  | a :: l => f a ++ flC f l
section
variable {α : Type} {f : α → List Value} {l : List α} {sz : Nat}
theorem flC_app (a c : List α) : flC f (a ++ c) = flC f a ++ flC f c := by
  induction a with
  | nil => rfl
  | cons x a ih => simp only [List.cons_append, flC, ih, List.append_assoc]
theorem flC_len (h : ∀ a ∈ l, (f a).length = sz) : (flC f l).length = l.length * sz := by
  induction l with
  | nil => simp [flC]
  | cons x l ih =>
    have h1 := h x List.mem_cons_self
    have h2 := ih fun w hw => h w (List.mem_cons_of_mem _ hw)
    simp only [flC, List.length_append, h1, h2, List.length_cons, Nat.succ_mul]; omega
theorem flC_at (h : ∀ a ∈ l, (f a).length = sz) {i : Nat} (hi : i < l.length) {j : Nat} (hj : j < sz) : (flC f l)[i * sz + j]? = (f l[i])[j]? := by
  induction l generalizing i with
  | nil => simp at hi
  | cons x l ih =>
    have h1 := h x List.mem_cons_self
    cases i with
    | zero => simp only [flC, Nat.zero_mul, Nat.zero_add, List.getElem_cons_zero]; exact List.getElem?_append_left (by omega)
    | succ i =>
      simp only [flC, List.getElem_cons_succ]
      rw [List.getElem?_append_right (by rw [h1, Nat.succ_mul]; omega), h1, Nat.succ_mul, show i * sz + sz + j - sz = i * sz + j by omega]
      exact ih (fun w hw => h w (List.mem_cons_of_mem _ hw)) (by simpa using hi)
theorem flC_seg (h : ∀ a ∈ l, (f a).length = sz) {i : Nat} (hi : i < l.length) : ((flC f l).drop (i * sz)).take sz = f l[i] := by
  apply List.ext_getElem?
  intro j
  rw [List.getElem?_take, List.getElem?_drop]
  have h1 := h _ (List.getElem_mem hi)
  split
  · rename_i hj; exact flC_at h hi hj
  · rename_i hj; rw [List.getElem?_eq_none (by omega)]
theorem flC_set (h : ∀ a ∈ l, (f a).length = sz) {i : Nat} {x : α} (hx : (f x).length = sz) (hi : i < l.length) : spl (flC f l) (i * sz) (f x) = flC f (l.set i x) := by
  induction l generalizing i with
  | nil => simp at hi
  | cons y l ih =>
    have h1 := h y List.mem_cons_self
    cases i with
    | zero =>
      simp only [List.set_cons_zero, flC, spl, Nat.zero_mul, List.take_zero, List.nil_append, Nat.zero_add, hx]
      rw [List.drop_append_of_le_length (by omega), List.drop_of_length_le (by omega), List.nil_append]
    | succ i =>
      have := ih (fun w hw => h w (List.mem_cons_of_mem _ hw)) (by simpa using hi)
      simp only [List.set_cons_succ, flC, ← this, spl]
      rw [Nat.succ_mul, show i * sz + sz = (f y).length + i * sz by omega, List.take_length_add_append, show (f y).length + i * sz + (f x).length = (f y).length + (i * sz + (f x).length) by omega, List.drop_length_add_append, List.append_assoc]
theorem flC_one (h : ∀ a ∈ l, ∀ u ∈ f a, u.oneCell' = true) : ∀ u ∈ flC f l, u.oneCell' = true := by
  induction l with
  | nil => intro u hu; simp [flC] at hu
  | cons x l ih =>
    intro u hu
    rcases List.mem_append.1 hu with hu | hu
    · exact h x List.mem_cons_self u hu
    · exact ih (fun w hw => h w (List.mem_cons_of_mem _ hw)) u hu
theorem sl_cell {w : World} {bk off n c j : Nat} {cs : List Value} (h : SL w sz (.slice (some ⟨bk, off, none⟩) n c) n cs) (hj : j < cs.length) : w.cell? ⟨bk, off + j, none⟩ = cs[j]? := by
  obtain ⟨A, c', hv, hl, _, _, _, hc⟩ := h
  cases hv
  obtain ⟨b', o', hA, _, hcc⟩ := hc (by
    rcases Nat.eq_zero_or_pos n with h0 | h0
    · subst h0; simp at hl; subst hl; simp at hj
    · exact h0)
  cases hA
  exact hcc j hj
theorem fl_cell {w : World} {bk off c i j : Nat} (h : SL w sz (.slice (some ⟨bk, off, none⟩) l.length c) l.length (flC f l)) (hf : ∀ a ∈ l, (f a).length = sz) (hi : i < l.length) (hj : j < sz) : w.cell? ⟨bk, off + i * sz + j, none⟩ = (f l[i])[j]? := by
  rw [Nat.add_assoc, sl_cell h, flC_at hf hi hj]
  rw [flC_len hf]
  have : (i + 1) * sz ≤ l.length * sz := Nat.mul_le_mul_right _ hi
  rw [Nat.succ_mul] at this; omega
end
theorem segO_front {l : List Value} (m : List Value) {n : Nat} (h : l.length = n) : segO (l ++ m) 0 n = some l := by
  subst h
  induction l with
  | nil => cases m <;> rfl
  | cons a l ih => simp only [List.cons_append, List.length_cons, segO, ih]
theorem evC_id {e : Ev} (h : e.id.length = 32) : segO (evC e) 6 32 = some (u8s e.id) := segO_front (n := 32) _ (by rw [u8s_len, h])
theorem evC_strv {e : Ev} {v : Value} (h : e.id.length = 32) : stO (evC e) 38 v = some (evC { e with rv := v }) := by
  refine stO_ok (by rw [evC_len h]; omega) ?_
  simp only [evC, List.set_cons_succ]
  have := set_at (u8s e.id) e.rv v []
  rw [u8s_len, h] at this
  rw [this]
theorem idsC_fl (l : List (List Int)) : idsC l = flC u8s l := by
  induction l with
  | nil => rfl
  | cons x l ih => simp only [idsC, flC, ih]
abbrev wssC : List Wn → List Value := flC waC
abbrev evsC : List Ev → List Value := flC evC
def evP (e : Ev) : List SP := [rZ e.dv e.deps, rD e.rv e.refs]
def evF : List Ev → List SP
  | [] => []
  | e :: l => evP e ++ evF l
theorem evF_app (a c : List Ev) : evF (a ++ c) = evF a ++ evF c := by
  induction a with
  | nil => rfl
  | cons x a ih => simp only [List.cons_append, evF, ih, List.append_assoc]
theorem evF_snoc {a : List Ev} {x : Ev} : (evF (a ++ [x])).Perm (evP x ++ evF a) := by
  rw [evF_app]
  exact List.perm_append_comm.trans (.of_eq (by simp [evF]))
abbrev rEn (A : Option Addr) (c n : Nat) (l : List Ev) : SP := row t_api_Event 39 (.slice A n c) n (evsC l)
abbrev rEs (v : Value) (l : List Ev) : SP := row t_api_Event 39 v l.length (evsC l)
/-- An event may be read. -/
structure ER (w : World) (e : Ev) : Prop where
  dv : VL (Value.int .i64) w e.dv e.deps
  rv : SL w 32 e.rv e.refs.length (idsC e.refs)
/-- An event is one. -/
structure EW (e : Ev) : Prop where
  id : idOk e.id
  dot : dotOk (e.r, e.n)
  rf : ∀ x ∈ e.refs, idOk x
  kind : I64 e.kind
  dp : ∀ x ∈ e.deps, I64 x
  rs : e.repo.size ≤ maxLen
  ts : e.tag.size ≤ maxLen
theorem EW.l32 {e : Ev} (h : EW e) : e.id.length = 32 := h.id.1
theorem EW.r32 {e : Ev} (h : EW e) : len32 e.refs := fun x hx => (h.rf x hx).1
theorem EW.own {e : Ev} (h : EW e) (dv rv : Value) : EW (e.own dv rv) := ⟨h.id, h.dot, h.rf, h.kind, h.dp, h.rs, h.ts⟩
structure WL (w : World) (v : Value) (l : List Wn) : Prop where
  sl : SL w 40 v l.length (wssC l)
  er : ∀ m ∈ l, ER w m.e
structure EL (w : World) (v : Value) (l : List Ev) : Prop where
  sl : SL w 39 v l.length (evsC l)
  er : ∀ m ∈ l, ER w m
section
variable {b : World} {F : List SP} {e : Ev} {l : List Wn}
theorem evF_er {l : List Ev} {k : Nat} (hk : nth F k = some (all (evF l))) {m : Ev} (hm : m ∈ l) : ∀ w, Sat b F w → ER w m := fun w hS => by
  obtain ⟨l1, l2, rfl⟩ := List.append_of_mem hm
  obtain ⟨h1, hl, hA⟩ := hS.mem.get hk
  have hp : (evF (l1 ++ m :: l2)).Perm (evP m ++ evF (l1 ++ l2)) := by
    rw [evF_app, evF, evF_app, ← List.append_assoc, ← List.append_assoc]
    exact List.perm_append_comm.append_right _
  have h2 : Sat b (evP m ++ evF (l1 ++ l2)) w := ⟨hS.os, hS.tape, hS.output, (ent_perm hp _ hA).mono hl⟩
  exact ⟨vlZ (k := 0) rfl w h2, (h2.oat (k := 1) rfl).sl⟩
theorem rEs_el {l : List Ev} {v : Value} {k j : Nat} (hk : nth F k = some (rEs v l)) (hj : nth F j = some (all (evF l))) : ∀ w, Sat b F w → EL w v l := fun w H => ⟨(H.oat hk).sl, fun _ hm => evF_er hj hm w H⟩
theorem SameInts_S {va vb : Value} {xs ys : List Int} (ha : ∀ w, Sat b F w → VL (Value.int .i64) w va xs) (hb : ∀ w, Sat b F w → VL (Value.int .i64) w vb ys) : SC Tryz.prog n_entrepotkit_SameInts [va, vb] b F (fun v F' => v = .bool (decide (xs = ys)) ∧ F' = F) :=
  SC.ofExt fun w H => SameInts_spec (ha w H) (hb w H)
theorem CopyInts_S {va : Value} {xs : List Int} (ha : ∀ w, Sat b F w → VL (Value.int .i64) w va xs) (hn : xs.length ≤ 1048576) : SC Tryz.prog n_entrepotkit_CopyInts [va] b F (fun v F' => F' = rZ v xs :: F) :=
  SC.ofMade fun w H => CopyInts_spec (ha w H) hn
set_option maxHeartbeats 1000000 in
theorem SameIDs_R {va vb : Value} {l : List (List Int)} (ha : ∀ w, Sat b F w → SL w 32 va l.length (idsC l)) (hb : ∀ w, Sat b F w → SL w 32 vb l.length (idsC l)) (hl : len32 l) (hm : l.length ≤ 1000000) : SC Tryz.prog n_entrepotkit_SameIDs [va, vb] b F (fun v F' => v = .bool true ∧ F' = F) := by
  refine enterS F_entrepotkit_SameIDs rfl rfl rfl ?_
  refine sw_fact (fun w H => sl_form (ha w H)) ?_
  rintro ⟨A, c, rfl, h1, h2, h3, h4, _⟩
  refine sw_fact (fun w H => sl_form (hb w H)) ?_
  rintro ⟨B, d, rfl, q1, q2, q3, q4, _⟩
  (refine sw_seq ?_; refine sw_region ?_; refine so_1 rfl ?_; refine so_nil ?_; refine sn_then ?_; refine sw_seq ?_; refine sw_region ?_; (iterate 6 refine so_1 rfl ?_); refine so_nil ?_; refine sn_then ?_; (iterate 2 refine sw_seq ?_); refine sw_region ?_; refine so_1 rfl ?_; refine so_nil ?_; refine sn_then ?_; refine sw_block ?_)
  refine sw_know 5 (.bool true) rfl (by simp) ?_
  refine sw_loop (S := Nat) (fun i => [(0, .slice A l.length c), (1, .slice B l.length d), (5, .bool true), (6, .int .i64 (i : Int))]) (fun _ => F) (fun i => i ≤ l.length) (fun i => l.length - i) 0 ⟨rfl, rfl, rfl, rfl, trivial⟩ (Ent.refl _) (Nat.zero_le _) ?_
  intro i hi
  ((iterate 2 refine sw_seq ?_); refine sw_region ?_; (iterate 7 refine so_1 rfl ?_); refine so_nil ?_; refine sn_then ?_)
  refine sw_if rfl (fun g1 => ?_) (fun g1 => ?_)
  · have g1' : i < l.length := by omega
    obtain ⟨gA, oA, rfl⟩ := h4 (by omega)
    obtain ⟨gB, oB, rfl⟩ := q4 (by omega)
    have hx := hl _ (List.getElem_mem g1')
    have ca : ∀ w, Sat b F w → ∀ j, j < 32 → w.cell? ⟨gA, oA + i * 32 + j, none⟩ = (u8s l[i])[j]? := fun w H j hj => fl_cell (f := u8s) (by rw [← idsC_fl]; exact ha w H) (fun a h => by rw [u8s_len, hl a h]) g1' hj
    have cb : ∀ w, Sat b F w → ∀ j, j < 32 → w.cell? ⟨gB, oB + i * 32 + j, none⟩ = (u8s l[i])[j]? := fun w H j hj => fl_cell (f := u8s) (by rw [← idsC_fl]; exact hb w H) (fun a h => by rw [u8s_len, hl a h]) g1' hj
    generalize l[i] = x at *
    (refine sw_skip ?_; refine sn_then ?_; refine sw_seq ?_; refine sw_block ?_)
    refine sw_draw flo _ (by decide +kernel) (Ent.refl _) ?_
    ((iterate 2 refine sd_1 rfl (.inl rfl) ?_); refine sd_2 rfl rfl (by omega) ?_)
    refine sd_rd rfl (fun w H => ex_loadN (cs := u8s x) rfl rfl rfl (by rw [u8s_len, hx]; rfl) (fun j hj => by rw [mulz_eq, Int.toNat_natCast]; exact ca w H j (by rw [u8s_len, hx] at hj; exact hj))) rfl rfl ?_
    ((iterate 2 refine sd_1 rfl (.inl rfl) ?_); refine sd_2 rfl rfl (by omega) ?_)
    refine sd_rd rfl (fun w H => ex_loadN (cs := u8s x) rfl rfl rfl (by rw [u8s_len, hx]; rfl) (fun j hj => by rw [mulz_eq, Int.toNat_natCast]; exact cb w H j (by rw [u8s_len, hx] at hj; exact hj))) rfl rfl ?_
    refine sd_pu rfl (pu_eqI (as00 := x) (bs := x) rfl rfl hx hx) rfl rfl ?_
    refine sd_know 29 (.bool true) rfl (by simp) ?_
    (refine sd_1 rfl (.inl rfl) ?_)
    refine sd_nil ?_
    (refine sn_block ?_; refine sn_then ?_; refine sw_region ?_; refine so_1 rfl ?_; refine so_2 rfl (by (unfold I64; omega)) ?_; refine so_1 rfl ?_; refine so_nil ?_)
    refine sn_round (i + 1) ⟨rfl, rfl, rfl, rfl, trivial⟩ (Ent.refl _) ?_ ?_
    · show i + 1 ≤ l.length
      omega
    · show l.length - (i + 1) < l.length - i
      omega
  · (refine sw_exit ?_; refine sn_then_exit ?_; refine sn_loop_exit ?_; refine sn_block_exit ?_; refine sn_then ?_; refine sw_seq ?_; refine sw_region ?_; (iterate 2 refine so_1 rfl ?_); refine so_nil ?_; refine sn_then ?_; refine sw_ret ?_)
    refine sn_ret rfl (.tmp rfl .nil) (Ent.refl _) ?_
    exact ⟨rfl, rfl⟩
set_option maxRecDepth 20000 in
set_option maxHeartbeats 1000000 in
theorem LongEvent_S (h32 : e.id.length = 32) (he : ∀ w, Sat b F w → ER w e) : SC Tryz.prog n_entrepotkit_LongEvent [evV e] b F (fun v F' => ∃ q : Bool, (q = false → e.deps.length ≤ 20 ∧ e.refs.length ≤ 300 ∧ e.repo.size ≤ 200 ∧ e.tag.size ≤ 200) ∧ v = .bool q ∧ F' = F) := by
  refine enterS F_entrepotkit_LongEvent rfl rfl rfl ?_
  refine sw_fact (fun w H => (he w H).dv.form) ?_
  rintro ⟨A, c, hdv, _, _, _, _⟩
  refine sw_fact (fun w H => sl_form (he w H).rv) ?_
  rintro ⟨A2, c2, hrv, _, _, _, _, _⟩
  (refine sw_seq ?_; refine sw_region ?_)
  refine so_box rfl rfl rfl rfl rfl fun g1 => ?_
  (refine so_1 rfl ?_; refine so_nil ?_; refine sn_then ?_; refine sw_seq ?_; refine sw_region ?_; refine so_1 rfl ?_; refine so_l 0 rfl rfl rfl ?_)
  refine so_know 4 (.slice A e.deps.length c) rfl hdv ?_
  ((iterate 3 refine so_1 rfl ?_))
  by_cases h1 : 20 < e.deps.length
  · refine so_know 7 (.bool true) rfl (congrArg Value.bool (decide_eq_true (by omega))) ?_
    ((iterate 18 refine so_1 rfl ?_); refine so_nil ?_; refine sn_then ?_; refine sw_ret ?_)
    refine sn_ret rfl (.tmp rfl .nil) (ent_keep 1 [] rfl rfl) ?_
    exact ⟨true, (fun h => by cases h), rfl, rfl⟩
  refine so_know 7 (.bool false) rfl (congrArg Value.bool (decide_eq_false (by omega))) ?_
  (refine so_1 rfl ?_)
  refine so_ld 0 rfl rfl rfl rfl rfl rfl (evC_rv h32) rfl ?_
  refine so_know 9 (.slice A2 e.refs.length c2) rfl hrv ?_
  ((iterate 4 refine so_1 rfl ?_))
  by_cases h2 : 300 < e.refs.length
  · refine so_know 13 (.bool true) rfl (congrArg Value.bool (decide_eq_true (by omega))) ?_
    ((iterate 12 refine so_1 rfl ?_); refine so_nil ?_; refine sn_then ?_; refine sw_ret ?_)
    refine sn_ret rfl (.tmp rfl .nil) (ent_keep 1 [] rfl rfl) ?_
    exact ⟨true, (fun h => by cases h), rfl, rfl⟩
  refine so_know 13 (.bool false) rfl (congrArg Value.bool (decide_eq_false (by omega))) ?_
  (refine so_1 rfl ?_; refine so_l 0 rfl rfl rfl ?_; (iterate 4 refine so_1 rfl ?_))
  by_cases h3 : 200 < e.repo.size
  · refine so_know 19 (.bool true) rfl (congrArg Value.bool (decide_eq_true (by omega))) ?_
    ((iterate 6 refine so_1 rfl ?_); refine so_nil ?_; refine sn_then ?_; refine sw_ret ?_)
    refine sn_ret rfl (.tmp rfl .nil) (ent_keep 1 [] rfl rfl) ?_
    exact ⟨true, (fun h => by cases h), rfl, rfl⟩
  refine so_know 19 (.bool false) rfl (congrArg Value.bool (decide_eq_false (by omega))) ?_
  (refine so_1 rfl ?_; refine so_l 0 rfl rfl rfl ?_; (iterate 4 refine so_1 rfl ?_); refine so_nil ?_; refine sn_then ?_; refine sw_ret ?_)
  refine sn_ret rfl (.tmp rfl .nil) (ent_keep 1 [] rfl rfl) ?_
  exact ⟨_, fun h => ⟨by omega, by omega, by omega, by have := of_decide_eq_false h; omega⟩, rfl, rfl⟩
end
end Go.Proofs.YtaglpaoipdmboaaGreat
/- Events and what is held, continued: compared, copied. Conditions: not too many. -/
namespace Go.Proofs.YtaglpaoipdmboaaGreat
open Go.Eng Go.RowKit Go.WideMaps

theorem nE_eq {e f : Ev} (h : nE e = nE f) : ∃ dv rv, f = e.own dv rv := by
  refine ⟨f.dv, f.rv, ?_⟩
  have h1 : f = (nE f).own f.dv f.rv := rfl
  rw [h1, ← h]; rfl
section
variable {b : World} {F : List SP} {e f : Ev} {l : List Wn}
theorem ER.own {w : World} {dv rv : Value} (h : VL (Value.int .i64) w dv e.deps) (h2 : SL w 32 rv e.refs.length (idsC e.refs)) : ER w (e.own dv rv) := ⟨h, h2⟩
set_option maxRecDepth 20000 in
set_option maxHeartbeats 2000000 in
theorem SameEvent_S (h : nE e = nE f) (he : ∀ w, Sat b F w → ER w e) (hf : ∀ w, Sat b F w → ER w f) (h32 : e.id.length = 32) (hr : len32 e.refs) (hl : e.refs.length ≤ 1000000) :
    SC Tryz.prog n_entrepotkit_SameEvent [evV e, evV f] b F (fun v F' => v = .bool true ∧ F' = F) := by
  obtain ⟨dv, rv, rfl⟩ := nE_eq h
  have h33 : (e.own dv rv).id.length = 32 := h32
  refine enterS F_entrepotkit_SameEvent rfl rfl rfl ?_
  (refine sw_seq ?_; refine sw_region ?_)
  refine so_box rfl rfl rfl rfl rfl fun g2 => ?_
  skip
  refine so_box rfl rfl rfl rfl rfl fun g3 => ?_
  (refine so_1 rfl ?_; refine so_nil ?_; refine sn_then ?_; refine sw_seq ?_; refine sw_region ?_; refine so_1 rfl ?_; refine so_l 1 rfl rfl rfl ?_; refine so_1 rfl ?_; refine so_l 0 rfl rfl rfl ?_)
  refine so_pu rfl (pu_eqA rfl rfl (eq_dot _ _ _ _)) rfl ?_
  refine so_know 9 (.bool true) rfl (congrArg Value.bool (decide_eq_true ⟨rfl, rfl⟩)) ?_
  ((iterate 2 refine so_1 rfl ?_); refine so_l 1 rfl rfl rfl ?_; refine so_1 rfl ?_; refine so_l 0 rfl rfl rfl ?_)
  refine so_callE rfl rfl rfl (SameInts_S (up (fun w H => (he w H).dv) (ent_keep 2 [] rfl rfl)) (up (fun w H => (hf w H).dv) (ent_keep 2 [] rfl rfl))) ?_
  refine so_know 15 (.bool true) rfl (congrArg Value.bool (decide_eq_true rfl)) ?_
  ((iterate 3 refine so_1 rfl ?_); refine so_l 1 rfl rfl rfl ?_; refine so_1 rfl ?_; refine so_l 0 rfl rfl rfl ?_; (iterate 3 refine so_1 rfl ?_))
  refine so_know 24 (.bool true) rfl (congrArg Value.bool (decide_eq_true rfl)) ?_
  (refine so_1 rfl ?_; refine so_l 1 rfl rfl rfl ?_; refine so_1 rfl ?_; refine so_l 0 rfl rfl rfl ?_; (iterate 3 refine so_1 rfl ?_))
  refine so_know 31 (.bool true) rfl (by first | exact congrArg Value.bool (decide_eq_true rfl) | simp [Ev.own]) ?_
  (refine so_1 rfl ?_; refine so_l 1 rfl rfl rfl ?_; refine so_1 rfl ?_; refine so_l 0 rfl rfl rfl ?_; (iterate 3 refine so_1 rfl ?_))
  refine so_know 38 (.bool true) rfl (by first | exact congrArg Value.bool (decide_eq_true rfl) | simp [Ev.own]) ?_
  (refine so_1 rfl ?_)
  refine so_ldA 1 rfl rfl rfl rfl rfl rfl (evC_id h32) rfl ?_
  (refine so_1 rfl ?_)
  refine so_ldA 0 rfl rfl rfl rfl rfl rfl (evC_id h33) rfl ?_
  refine so_pu rfl (pu_eqI (as00 := e.id) (bs := e.id) rfl rfl h32 h32) rfl ?_
  refine so_know 43 (.bool true) rfl (congrArg Value.bool (decide_eq_true rfl)) ?_
  ((iterate 3 refine so_1 rfl ?_))
  refine so_ld 1 rfl rfl rfl rfl rfl rfl (evC_rv h32) rfl ?_
  (refine so_1 rfl ?_)
  refine so_ld 0 rfl rfl rfl rfl rfl rfl (evC_rv h33) rfl ?_
  refine so_callE rfl rfl rfl (SameIDs_R (l := e.refs) (up (fun w H => (he w H).rv) (ent_keep 2 [] rfl rfl)) (up (fun w H => (hf w H).rv) (ent_keep 2 [] rfl rfl)) hr hl) ?_
  ((iterate 2 refine so_1 rfl ?_); refine so_nil ?_; refine sn_then ?_; refine sw_ret ?_)
  refine sn_ret rfl (.tmp rfl .nil) (ent_keep 2 [] rfl rfl) ?_
  exact ⟨rfl, rfl⟩
set_option maxRecDepth 20000 in
set_option maxHeartbeats 2000000 in
theorem CopyEvent_S (he : ∀ w, Sat b F w → ER w e) (h32 : e.id.length = 32) (hd : e.deps.length ≤ 1000000) (hl : e.refs.length ≤ 1000000) :
    SC Tryz.prog n_entrepotkit_CopyEvent [evV e] b F (fun v F' => ∃ dv rv, v = evV (e.own dv rv) ∧ F' = rZ dv e.deps :: rD rv e.refs :: F) := by
  refine enterS F_entrepotkit_CopyEvent rfl rfl rfl ?_
  (refine sw_seq ?_; refine sw_region ?_)
  refine so_box rfl rfl rfl rfl rfl fun g1 => ?_
  skip
  refine so_new rfl rfl rfl rfl rfl fun g2 => ?_
  (refine so_nil ?_; refine sn_then ?_; refine sw_seq ?_; refine sw_region ?_; refine so_1 rfl ?_; refine so_l 1 rfl rfl rfl ?_)
  refine so_call rfl rfl rfl (CopyInts_S (up (fun w H => (he w H).dv) (ent_keep 2 [] rfl rfl)) (by omega)) ?_
  rintro dv _ rfl
  refine so_fact (fun w H => (H.oat (k := 0) rfl).form) ?_
  rintro ⟨A1, c1, rfl, _, _, _⟩
  (refine so_1 rfl ?_; refine so_s1 2 rfl rfl rfl rfl ?_; refine so_nil ?_; refine sn_then ?_; refine sw_seq ?_; refine sw_region ?_)
  refine so_lit0 rfl rfl rfl rfl rfl fun g0 => ?_
  refine so_ent (ent_blk_row (n := 0) (sz := 32) rfl rfl (by decide) 0 rfl rfl) ?_
  (refine so_1 rfl ?_)
  refine so_ld 3 rfl rfl rfl rfl rfl rfl (evC_rv (e := { e with dv := .slice A1 e.deps.length c1 }) h32) rfl ?_
  refine so_append 0 rfl rfl rfl rfl rfl rfl rfl rfl rfl (up (fun w H => (he w H).rv) (ent_keep 4 [] rfl rfl)) (idsC_one e.refs) (by omega) (fun _ => rfl) fun v6 => ?_
  refine so_fact (fun w H => (H.oat (k := 0) rfl).form) ?_
  rintro ⟨A2, c2, rfl, _, _, _⟩
  rw [Nat.zero_add, List.nil_append]
  (refine so_1 rfl ?_)
  refine so_st 3 rfl rfl rfl rfl rfl rfl rfl rfl (show stO (evC { e with dv := .slice A1 e.deps.length c1 }) 38 _ = some (evC (e.own (.slice A1 e.deps.length c1) (.slice A2 e.refs.length c2))) from evC_strv h32) rfl ?_
  have h33 : (e.own (.slice A1 e.deps.length c1) (.slice A2 e.refs.length c2)).id.length = 32 := h32
  have hone := evC_one (e := e.own (.slice A1 e.deps.length c1) (.slice A2 e.refs.length c2)) rfl rfl
  generalize hye : e.own (.slice A1 e.deps.length c1) (.slice A2 e.refs.length c2) = ye at *
  (refine so_nil ?_; refine sn_then ?_; refine sw_seq ?_; refine sw_region ?_)
  refine so_ldA 3 rfl rfl rfl rfl rfl rfl (segO_all (by rw [evC_len h33]; rfl)) rfl ?_
  refine so_stW 2 rfl rfl rfl rfl rfl rfl rfl (evC_len h33) hone (by rw [evC_len h33]; rfl) ?_
  (refine so_nil ?_; refine sn_then ?_; refine sw_ret ?_)
  refine sn_ret rfl (.whole 2 rfl rfl rfl rfl (by rw [evC_len h33]; rfl) .nil) (ent_keep 4 [1, 0] rfl rfl) ?_
  exact ⟨_, _, by rw [hye]; rfl, rfl⟩
theorem ev_len {l : List Ev} (h : ∀ m ∈ l, m.id.length = 32) : ∀ m ∈ l, (evC m).length = 39 := fun m hm => evC_len (h m hm)
theorem ev_cell {l : List Ev} {w : World} {bk off c i j : Nat} (h : EL w (.slice (some ⟨bk, off, none⟩) l.length c) l) (h32 : ∀ m ∈ l, m.id.length = 32) (hi : i < l.length) (hj : j < 39) : w.cell? ⟨bk, off + i * 39 + j, none⟩ = (evC l[i])[j]? := fl_cell h.sl (ev_len h32) hi hj
end
end Go.Proofs.YtaglpaoipdmboaaGreat
/- Events and what is held, continued: written over; which are too many; dots. Conditions: not too many. -/
namespace Go.Proofs.YtaglpaoipdmboaaGreat
open Go.Eng Go.RowKit Go.WideMaps

section
variable {b : World} {F : List SP}
theorem OverInts_D {v : Value} {l : List Int} (hm : l.length ≤ 1000000) : SC Tryz.prog n_entrepotkit_OverInts [v] b (rZ v l :: F) (fun _ F' => F' = F) := by
  refine enterS F_entrepotkit_OverInts rfl rfl rfl ?_
  refine sw_fact (fun w H => (H.oat (k := 0) rfl).form) ?_
  rintro ⟨A, c, rfl, k1, k2, k3⟩
  (refine sw_seq ?_; refine sw_region ?_; refine so_1 rfl ?_; refine so_nil ?_; refine sn_then ?_; refine sw_block ?_)
  refine sw_loop (S := Nat × List Int) (fun s => [(0, .slice A l.length c), (2, .int .i64 (s.1 : Int))]) (fun s => row t_int 1 (.slice A l.length c) l.length (ints s.2) :: F) (fun s => s.1 ≤ l.length ∧ s.2.length = l.length) (fun s => l.length - s.1) (0, l) ⟨rfl, rfl, trivial⟩ (Ent.refl _) ⟨Nat.zero_le _, rfl⟩ ?_
  rintro ⟨i, m⟩ ⟨i1, i2⟩
  dsimp only at i1 i2 ⊢
  ((iterate 2 refine sw_seq ?_); refine sw_region ?_; (iterate 4 refine so_1 rfl ?_); refine so_nil ?_; refine sn_then ?_)
  refine sw_if rfl (fun h1 => ?_) (fun h1 => ?_)
  · obtain ⟨gA, oA, rfl⟩ := k3 (by omega)
    have hset : spl (ints m) i [.int .i64 (-77)] = ints (m.set i (-77)) := by
      have := flC_set (f := fun x : Int => [Value.int .i64 x]) (l := m) (sz := 1) (fun _ _ => rfl) (i := i) (x := -77) rfl (by omega)
      have e : ∀ l : List Int, flC (fun x : Int => [Value.int .i64 x]) l = ints l := fun l => by
        induction l with
        | nil => rfl
        | cons x l ih => simp only [flC, ih]; rfl
      rw [e, e, Nat.mul_one] at this
      exact this
    (refine sw_skip ?_; refine sn_then ?_; refine sw_seq ?_; refine sw_block ?_; refine sw_region ?_; (iterate 2 refine so_1 rfl ?_); refine so_2 rfl (by omega) ?_)
    refine so_strow 0 i rfl rfl rfl rfl rfl rfl rfl rfl hset rfl (by rw [mulz_eq, Int.toNat_natCast, Nat.mul_one]) (by simp [ints]; omega) (by simp [Value.oneCell']) ?_
    (refine so_nil ?_; refine sn_block ?_; refine sn_then ?_; refine sw_region ?_; refine so_1 rfl ?_; refine so_2 rfl (by (unfold I64; omega)) ?_; refine so_1 rfl ?_; refine so_nil ?_)
    refine sn_round (i + 1, m.set i (-77)) ⟨rfl, rfl, trivial⟩ (Ent.refl _) ⟨by dsimp only; omega, by dsimp only; rw [List.length_set]; exact i2⟩ (by dsimp only; omega)
  · (refine sw_exit ?_; refine sn_then_exit ?_; refine sn_loop_exit ?_; refine sn_block_exit ?_)
    refine sn_end rfl .nil (ent_keep 1 [] rfl rfl) ?_
    rfl
theorem OverIDs_D {v : Value} {l : List (List Int)} (hl : len32 l) (hm : l.length ≤ 1000000) : SC Tryz.prog n_entrepotkit_OverIDs [v] b (rD v l :: F) (fun _ F' => F' = F) := by
  refine enterS F_entrepotkit_OverIDs rfl rfl rfl ?_
  refine sw_fact (fun w H => (H.oat (k := 0) rfl).form) ?_
  rintro ⟨A, c, rfl, k1, k2, k3⟩
  (refine sw_seq ?_; refine sw_region ?_; refine so_1 rfl ?_; refine so_nil ?_; refine sn_then ?_; refine sw_block ?_)
  refine sw_loop (S := Nat × List (List Int)) (fun s => [(0, .slice A l.length c), (2, .int .i64 (s.1 : Int))]) (fun s => rN A c l.length s.2 :: F) (fun s => s.1 ≤ l.length ∧ len32 s.2 ∧ s.2.length = l.length) (fun s => l.length - s.1) (0, l) ⟨rfl, rfl, trivial⟩ (Ent.refl _) ⟨Nat.zero_le _, hl, rfl⟩ ?_
  rintro ⟨i, m⟩ ⟨i1, i2, i3⟩
  dsimp only at i1 i2 i3 ⊢
  ((iterate 2 refine sw_seq ?_); refine sw_region ?_; (iterate 4 refine so_1 rfl ?_); refine so_nil ?_; refine sn_then ?_)
  refine sw_if rfl (fun h1 => ?_) (fun h1 => ?_)
  · obtain ⟨gA, oA, rfl⟩ := k3 (by omega)
    have h1' : i < m.length := by omega
    obtain ⟨x, hxd⟩ : ∃ x : List Int, x = [1, 2, 3] ++ List.replicate 29 0 := ⟨_, rfl⟩
    have hx : x.length = 32 := by rw [hxd]; rfl
    have hset := idsC_set i2 hx h1'
    have h32 := len32_set i2 hx i
    have hlen := idsC_len i2
    (refine sw_skip ?_; refine sn_then ?_; refine sw_seq ?_; refine sw_block ?_; refine sw_region ?_; (iterate 3 refine so_1 rfl ?_); refine so_2 rfl (by omega) ?_)
    refine so_know 11 (.agg ⟨u8s x⟩) rfl (by rw [hxd]; rfl) ?_
    refine so_strow 0 (i * 32) rfl rfl rfl rfl rfl rfl (by rw [u8s_len, hx]; rfl) rfl hset rfl (by rw [mulz_eq, Int.toNat_natCast]) ?_ (u8s_one x) ?_
    · rw [u8s_len, hx, hlen]; omega
    (refine so_nil ?_; refine sn_block ?_; refine sn_then ?_; refine sw_region ?_; refine so_1 rfl ?_; refine so_2 rfl (by (unfold I64; omega)) ?_; refine so_1 rfl ?_; refine so_nil ?_)
    refine sn_round (i + 1, m.set i x) ⟨rfl, rfl, trivial⟩ (Ent.refl _) ⟨by dsimp only; omega, h32, by dsimp only; rw [List.length_set]; exact i3⟩ (by dsimp only; omega)
  · (refine sw_exit ?_; refine sn_then_exit ?_; refine sn_loop_exit ?_; refine sn_block_exit ?_)
    refine sn_end rfl .nil (ent_keep 1 [] rfl rfl) ?_
    rfl
/-- Events that were written over. -/
def evX (k : Int) : Ev := ⟨0, 0, .slice none 0 0, [], k, ⟨#[]⟩, ⟨#[]⟩, List.replicate 32 0, .slice none 0 0, []⟩
set_option maxRecDepth 20000 in
set_option maxHeartbeats 4000000 in
theorem OverEvents_D {v : Value} {l : List Ev} (h32 : ∀ e ∈ l, e.id.length = 32 ∧ len32 e.refs) (hd : ∀ e ∈ l, e.deps.length ≤ 1000000 ∧ e.refs.length ≤ 1000000) (hm : l.length ≤ 1000000) : SC Tryz.prog n_entrepotkit_OverEvents [v] b (rEs v l :: all (evF l) :: F) (fun _ F' => F' = F) := by
  refine enterS F_entrepotkit_OverEvents rfl rfl rfl ?_
  refine sw_fact (fun w H => (H.oat (k := 0) rfl).form) ?_
  rintro ⟨A, c, rfl, k1, k2, k3⟩
  (refine sw_seq ?_; refine sw_region ?_; refine so_1 rfl ?_; refine so_nil ?_; refine sn_then ?_; refine sw_block ?_)
  refine sw_loop (S := Nat × List Ev) (fun s => [(0, .slice A l.length c), (2, .int .i64 (s.1 : Int))]) (fun s => rEn A c l.length s.2 :: all (evF (s.2.drop s.1)) :: F) (fun s => s.1 ≤ l.length ∧ s.2.drop s.1 = l.drop s.1 ∧ s.2.length = l.length ∧ ∀ e ∈ s.2, e.id.length = 32) (fun s => l.length - s.1) (0, l) ⟨rfl, rfl, trivial⟩ (Ent.refl _) ⟨Nat.zero_le _, rfl, rfl, fun e he => (h32 e he).1⟩ ?_
  rintro ⟨i, m⟩ ⟨i1, i2, i3, i4⟩
  dsimp only at i1 i2 i3 i4 ⊢
  ((iterate 2 refine sw_seq ?_); refine sw_region ?_; (iterate 4 refine so_1 rfl ?_); refine so_nil ?_; refine sn_then ?_)
  refine sw_if rfl (fun h1 => ?_) (fun h1 => ?_)
  · obtain ⟨gA, oA, rfl⟩ := k3 (by omega)
    have h1' : i < l.length := by omega
    have h2' : i < m.length := by omega
    have hml : m[i] = l[i] := by
      have := congrArg (·[0]?) i2
      simpa [h1', h2'] using this
    have hmem := List.getElem_mem h1'
    obtain ⟨e32, er⟩ := h32 _ hmem
    obtain ⟨ed, el⟩ := hd _ hmem
    have hdr : m.drop i = l[i] :: m.drop (i + 1) := by rw [← hml]; exact List.drop_eq_getElem_cons h2'
    have hset : spl (evsC m) (i * 39) (evC (evX (-7))) = evsC (m.set i (evX (-7))) := flC_set (ev_len i4) rfl h2'
    have hcm : ∀ j, j < 39 → (evsC m)[i * 39 + j]? = (evC l[i])[j]? := fun j hj => by rw [flC_at (ev_len i4) h2' hj, hml]
    have hlenm : (evsC m).length = m.length * 39 := flC_len (ev_len i4)
    have hdr2 : (m.set i (evX (-7))).drop (i + 1) = m.drop (i + 1) := by rw [List.drop_set_of_lt (by omega)]
    have hdr3 : m.drop (i + 1) = l.drop (i + 1) := by
      have := congrArg (List.drop 1) i2
      rwa [List.drop_drop, List.drop_drop] at this
    generalize l[i] = x at *
    refine sw_ent (G := rZ x.dv x.deps :: rD x.rv x.refs :: rEn (some ⟨gA, oA, none⟩) c l.length m :: all (evF (m.drop (i + 1))) :: F) (by
      rw [hdr]
      exact (ent_keep 2 [1, 0] rfl rfl).trans ((ent_out (A := evF (x :: m.drop (i + 1))) (B := evP x) (C := evF (m.drop (i + 1))) (.refl _)).trans (ent_keep 4 [0, 1, 3, 2] rfl rfl))) ?_
    refine sw_fact (fun w H => (H.oat (k := 0) rfl).form) ?_
    rintro ⟨A1, c1, hdv, _, _, _⟩
    (refine sw_skip ?_; refine sn_then ?_; refine sw_seq ?_; refine sw_block ?_; refine sw_seq ?_; refine sw_region ?_; (iterate 2 refine so_1 rfl ?_); refine so_2 rfl (by omega) ?_; refine so_1 rfl ?_)
    refine so_rd rfl (fun w H => ex_load rfl rfl rfl (by rw [mulz_eq, Int.toNat_natCast, Nat.add_assoc]; exact row_cell (k := 2) rfl ((hcm 2 (by omega)).trans rfl) w H)) rfl ?_
    refine so_call rfl rfl rfl (OverInts_D (v := x.dv) (l := x.deps) ed) ?_
    rintro _ _ rfl
    (refine so_nil ?_; refine sn_then ?_; refine sw_seq ?_; refine sw_region ?_; (iterate 2 refine so_1 rfl ?_); refine so_2 rfl (by omega) ?_; refine so_1 rfl ?_)
    refine so_rd rfl (fun w H => ex_load rfl rfl rfl (by rw [mulz_eq, Int.toNat_natCast, Nat.add_assoc]; exact row_cell (k := 1) rfl ((hcm 38 (by omega)).trans (by rw [← nth_eq]; exact evC_rv e32)) w H)) rfl ?_
    refine so_call rfl rfl rfl (OverIDs_D (v := x.rv) (l := x.refs) er el) ?_
    rintro _ _ rfl
    (refine so_nil ?_; refine sn_then ?_; refine sw_region ?_; (iterate 3 refine so_1 rfl ?_); refine so_2 rfl (by omega) ?_)
    refine so_know 23 (.agg ⟨evC (evX (-7))⟩) rfl rfl ?_
    refine so_strow 0 (i * 39) rfl rfl rfl rfl rfl rfl rfl rfl hset rfl (by rw [mulz_eq, Int.toNat_natCast]) (by rw [hlenm]; have : (evC (evX (-7))).length = 39 := rfl; omega) (evC_one rfl rfl) ?_
    (refine so_nil ?_; refine sn_block ?_; refine sn_then ?_; refine sw_region ?_; refine so_1 rfl ?_; refine so_2 rfl (by (unfold I64; omega)) ?_; refine so_1 rfl ?_; refine so_nil ?_)
    refine sn_round (i + 1, m.set i (evX (-7))) ⟨rfl, rfl, trivial⟩ (by simp only [hdr2]; exact Ent.refl _) ⟨by dsimp only; omega, by dsimp only; rw [hdr2, hdr3], by dsimp only; rw [List.length_set]; exact i3, fun e he => by
      rcases List.mem_or_eq_of_mem_set he with h | rfl
      · exact i4 e h
      · rfl⟩ (by dsimp only; omega)
  · (refine sw_exit ?_; refine sn_then_exit ?_; refine sn_loop_exit ?_; refine sn_block_exit ?_)
    refine sn_end rfl .nil (ent_keep 2 [] rfl rfl) ?_
    rfl
end
end Go.Proofs.YtaglpaoipdmboaaGreat
/- Events and what is held, continued: which are too many. Conditions: none. -/
namespace Go.Proofs.YtaglpaoipdmboaaGreat
open Go.Eng Go.RowKit Go.WideMaps

def LE (e : Ev) : Prop := e.deps.length ≤ 20 ∧ e.refs.length ≤ 300 ∧ e.repo.size ≤ 200 ∧ e.tag.size ≤ 200
section
variable {b : World} {F : List SP}
set_option maxRecDepth 20000 in
set_option maxHeartbeats 2000000 in
theorem LongEvents_S {v : Value} {l : List Ev} {many : Nat} (hl : ∀ w, Sat b F w → EL w v l) (h32 : ∀ e ∈ l, e.id.length = 32) (hm : many ≤ 1000) :
    SC Tryz.prog n_entrepotkit_LongEvents [v, .int .i64 many] b F (fun v F' => ∃ q : Bool, (q = false → l.length ≤ many ∧ ∀ e ∈ l, LE e) ∧ v = .bool q ∧ F' = F) := by
  refine enterS F_entrepotkit_LongEvents rfl rfl rfl ?_
  refine sw_fact (fun w H => sl_form (hl w H).sl) ?_
  rintro ⟨A, c, rfl, _, _, _, k4, _⟩
  (refine sw_seq ?_; refine sw_region ?_; refine so_1 rfl ?_; refine so_nil ?_; refine sn_then ?_; refine sw_seq ?_; refine sw_region ?_; refine so_1 rfl ?_; refine so_nil ?_; refine sn_then ?_; (iterate 2 refine sw_seq ?_); refine sw_region ?_; refine so_1 rfl ?_; refine so_nil ?_; refine sn_then ?_; refine sw_block ?_)
  refine sw_loop (S := Nat × Nat) (fun s => [(0, .slice A l.length c), (1, .int .i64 many), (5, .int .i64 (s.2 : Int)), (6, .int .i64 (s.1 : Int))]) (fun _ => F) (fun s => s.1 ≤ l.length ∧ s.1 ≤ many + 1 ∧ s.2 ≤ s.1 * 300 ∧ ∀ k (hk : k < l.length), k < s.1 → LE l[k]) (fun s => l.length - s.1) (0, 0) ⟨rfl, rfl, rfl, rfl, trivial⟩ (Ent.refl _) ⟨Nat.zero_le _, Nat.zero_le _, Nat.zero_le _, fun k _ h => absurd h (Nat.not_lt_zero k)⟩ ?_
  rintro ⟨i, r⟩ ⟨i1, i2, i3, i4⟩
  dsimp only at i1 i2 i3 i4 ⊢
  ((iterate 2 refine sw_seq ?_); refine sw_region ?_; (iterate 5 refine so_1 rfl ?_))
  by_cases h1 : i < l.length
  · refine so_know 11 (.bool true) rfl (congrArg Value.bool (decide_eq_true (by omega))) ?_
    ((iterate 4 refine so_1 rfl ?_); refine so_nil ?_; refine sn_then ?_)
    refine sw_if rfl (fun h2 => ?_) (fun h2 => ?_)
    · obtain ⟨gg, oo, rfl⟩ := k4 (by omega)
      have hmem := List.getElem_mem h1
      have hc : ∀ w, Sat b F w → ∀ j, j < 39 → w.cell? ⟨gg, oo + i * 39 + j, none⟩ = (evC l[i])[j]? := fun w H j hj => ev_cell (hl w H) h32 h1 hj
      have her : ∀ w, Sat b F w → ER w l[i] := fun w H => (hl w H).er _ hmem
      have hx32 := h32 _ hmem
      have hnext : LE l[i] → ∀ k (hk : k < l.length), k < i + 1 → LE l[k] := fun h k hk hlt => by
        by_cases e : k = i
        · subst e; exact h
        · exact i4 k hk (by omega)
      generalize l[i] = x at *
      (refine sw_skip ?_; refine sn_then ?_; refine sw_seq ?_; refine sw_block ?_; (iterate 2 refine sw_seq ?_); refine sw_region ?_; (iterate 2 refine so_1 rfl ?_); refine so_2 rfl (by omega) ?_)
      refine so_rd rfl (fun w H => ex_loadN (cs := evC x) rfl rfl rfl (evC_len hx32) (fun j hj => by rw [evC_len hx32] at hj; rw [mulz_eq, Int.toNat_natCast]; exact hc w H j hj)) rfl ?_
      refine so_call rfl rfl rfl (LongEvent_S hx32 her) ?_
      rintro _ _ ⟨q, hq, rfl, rfl⟩
      cases q with
      | true =>
        (refine so_nil ?_; refine sn_then ?_; refine sw_cond_t rfl ?_; refine sw_seq ?_; refine sw_region ?_; refine so_1 rfl ?_; refine so_nil ?_; refine sn_then ?_; refine sw_ret ?_; refine sn_then_ret ?_; refine sn_block_ret ?_; refine sn_then_ret ?_; refine sn_loop_ret ?_; refine sn_block_ret ?_; refine sn_then_ret ?_)
        refine sn_ret rfl (.tmp rfl .nil) (Ent.refl _) ?_
        exact ⟨true, (fun h => by cases h), rfl, rfl⟩
      | false =>
        have hle : LE x := hq rfl
        have hrl := hle.2.1
        (refine so_nil ?_; refine sn_then ?_; refine sw_cond_f rfl ?_; refine sw_skip ?_; refine sn_then ?_; refine sw_region ?_; (iterate 3 refine so_1 rfl ?_); refine so_2 rfl (by omega) ?_; refine so_1 rfl ?_)
        refine so_rd rfl (fun w H => ex_load rfl rfl rfl (by rw [mulz_eq, Int.toNat_natCast]; exact (hc w H 38 (by omega)).trans (by rw [← nth_eq]; exact evC_rv hx32))) rfl ?_
        refine so_fact (fun w H => sl_form (her w H).rv) ?_
        rintro ⟨A2, c2, hrv, _, _, _, _, _⟩
        refine so_know 28 (.slice A2 x.refs.length c2) rfl hrv ?_
        (refine so_1 rfl ?_; refine so_2 rfl (by (unfold I64; omega)) ?_; refine so_1 rfl ?_; refine so_nil ?_; refine sn_block ?_; refine sn_then ?_; refine sw_region ?_; refine so_1 rfl ?_; refine so_2 rfl (by (unfold I64; omega)) ?_; refine so_1 rfl ?_; refine so_nil ?_)
        refine sn_round (i + 1, r + x.refs.length) ⟨rfl, rfl, by simp only [look]; exact congrArg some (congrArg (Value.int .i64) (by omega)), rfl, trivial⟩ (Ent.refl _) ⟨h1, by dsimp only; omega, by dsimp only; omega, hnext hle⟩ (by dsimp only; omega)
    · (refine sw_exit ?_; refine sn_then_exit ?_; refine sn_loop_exit ?_; refine sn_block_exit ?_; refine sn_then ?_; refine sw_seq ?_; refine sw_region ?_; (iterate 5 refine so_1 rfl ?_))
      refine so_know 35 (.bool true) rfl (congrArg Value.bool (decide_eq_true (by omega))) ?_
      ((iterate 4 refine so_1 rfl ?_); refine so_nil ?_; refine sn_then ?_; refine sw_ret ?_)
      refine sn_ret rfl (.tmp rfl .nil) (Ent.refl _) ?_
      exact ⟨true, (fun h => by cases h), rfl, rfl⟩
  · refine so_know 11 (.bool false) rfl (congrArg Value.bool (decide_eq_false (by omega))) ?_
    ((iterate 4 refine so_1 rfl ?_); refine so_nil ?_; refine sn_then ?_; refine sw_cond_f rfl ?_; refine sw_exit ?_; refine sn_then_exit ?_; refine sn_loop_exit ?_; refine sn_block_exit ?_; refine sn_then ?_; refine sw_seq ?_; refine sw_region ?_; (iterate 5 refine so_1 rfl ?_))
    by_cases h2 : l.length ≤ many
    · refine so_know 35 (.bool false) rfl (congrArg Value.bool (decide_eq_false (by omega))) ?_
      ((iterate 4 refine so_1 rfl ?_); refine so_nil ?_; refine sn_then ?_; refine sw_ret ?_)
      refine sn_ret rfl (.tmp rfl .nil) (Ent.refl _) ?_
      refine ⟨_, fun _ => ⟨h2, fun e he => ?_⟩, rfl, rfl⟩
      obtain ⟨k, hk, rfl⟩ := List.mem_iff_getElem.1 he
      exact i4 k hk (by omega)
    · refine so_know 35 (.bool true) rfl (congrArg Value.bool (decide_eq_true (by omega))) ?_
      ((iterate 4 refine so_1 rfl ?_); refine so_nil ?_; refine sn_then ?_; refine sw_ret ?_)
      refine sn_ret rfl (.tmp rfl .nil) (Ent.refl _) ?_
      exact ⟨true, (fun h => by cases h), rfl, rfl⟩
end
end Go.Proofs.YtaglpaoipdmboaaGreat
/- Events and what is held, as arguments: read. Conditions: none. -/
namespace Go.Proofs.YtaglpaoipdmboaaGreat
open Go Go.Eng Go.RowKit

def isStrB (P : Program) (t : TypeId) : Bool := match P.underlying t with
  | some (.struct _) => true
  | _ => false
theorem agg_of_okWide {P : Program} {t : TypeId} {W : World} {r : Reach} {b0 : Nat} {v : Value} (ht : isStrB P t = true) (h : Value.okWide P W r b0 t v) : ∃ cs : Array Value, v = .agg cs := by
  unfold isStrB at ht
  split at ht
  · rename_i fs hf
    simp only [Value.okWide, hf] at h
    obtain ⟨cs, h1, _⟩ := h
    exact ⟨cs, h1⟩
  · cases ht
theorem flat_fl {α β : Type} {g : α → β} {f : β → List Value} : ∀ {ess : List (List Value)} {xs : List α}, ess.length = xs.length → (∀ (i : Nat) e a, ess[i]? = some e → xs[i]? = some a → e = f (g a)) → ess.flatten = flC f (xs.map g)
  | [], [], _, _ => rfl
  | [], _ :: _, h, _ => by simp at h
  | _ :: _, [], h, _ => by simp at h
  | e :: ess, a :: xs, h, hh => by
    rw [List.flatten_cons, hh 0 e a rfl rfl, flat_fl (by simpa using h) fun i e a h1 h2 => hh (i + 1) e a h1 h2]; rfl
theorem rdL_flat {α β : Type} {R : Rdg α} {g : α → β} {f : β → List Value} {p : β → Prop} {W : World} (hR : ∀ cs x, R W cs x → cs = f (g x) ∧ p (g x)) {sz : Nat} {cs : List Value} {x : Value × List α} (h : rdL sz R W cs x) : cs = [x.1] ∧ SL W sz x.1 (x.2.map g).length (flC f (x.2.map g)) ∧ ∀ y ∈ x.2.map g, p y := by
  obtain ⟨hv, ess, e1, e2, e3, e4⟩ := h
  have hf := flat_fl (f := f) (g := g) e1 fun i e a h1 h2 => (hR e a (e4 i e a h1 h2)).1
  rw [hf] at e3
  refine ⟨hv, by rw [List.length_map]; exact e3, fun y hy => ?_⟩
  obtain ⟨a, ha, rfl⟩ := List.mem_map.1 hy
  obtain ⟨i, hi, rfl⟩ := List.mem_iff_getElem.1 ha
  exact (hR _ _ (e4 i _ _ (List.getElem?_eq_getElem (by omega)) (List.getElem?_eq_getElem hi))).2
theorem rdI_list {W : World} {k : IntKind} {cs : List Value} {x : Value × List Int} (h : rdL 1 (rdI k) W cs x) : cs = [x.1] ∧ VL (Value.int k) W x.1 x.2 ∧ ∀ n ∈ x.2, (Lit.int k n).wf = true := by
  obtain ⟨h1, h2, h3⟩ := rdL_flat (g := id) (f := fun n => [Value.int k n]) (p := fun n => (Lit.int k n).wf = true) (fun cs x hx => ⟨hx.1, hx.2⟩) h
  rw [List.map_id] at h2 h3
  have e : ∀ l : List Int, flC (fun x : Int => [Value.int k x]) l = l.map (Value.int k) := fun l => by
    induction l with
    | nil => rfl
    | cons x l ih => simp only [flC, ih]; rfl
  rw [e] at h2
  exact ⟨h1, h2, h3⟩
theorem rdID_list {W : World} {cs : List Value} {x : Value × List (List Int)} (h : rdL 32 (Go.Eng.rdA 32 .u8) W cs x) : cs = [x.1] ∧ SL W 32 x.1 x.2.length (idsC x.2) ∧ ∀ y ∈ x.2, idOk y := by
  obtain ⟨h1, h2, h3⟩ := rdL_flat (g := id) (f := u8s) (p := idOk) (fun cs x hx => ⟨hx.1, hx.2⟩) h
  rw [List.map_id] at h2 h3
  rw [idsC_fl]
  exact ⟨h1, h2, h3⟩
abbrev rdEv : Rdg ((Int × Int) × (Value × List Int) × Int × ByteArray × ByteArray × List Int × (Value × List (List Int))) :=
  rdN 2 (rdN 1 (rdI .i64) (rdI .i64)) (rdN 1 (rdL 1 (rdI .i64)) (rdN 1 (rdI .i64) (rdN 1 rdS (rdN 1 rdS (rdN 32 (Go.Eng.rdA 32 .u8) (rdL 32 (Go.Eng.rdA 32 .u8)))))))
def evOf (x : (Int × Int) × (Value × List Int) × Int × ByteArray × ByteArray × List Int × (Value × List (List Int))) : Ev :=
  ⟨x.1.1, x.1.2, x.2.1.1, x.2.1.2, x.2.2.1, x.2.2.2.1, x.2.2.2.2.1, x.2.2.2.2.2.1, x.2.2.2.2.2.2.1, x.2.2.2.2.2.2.2⟩
theorem i64wf' {x : Int} (h : (Lit.int .i64 x).wf = true) : I64 x := (i64wf x).1 h
theorem cut_eq {n : Nat} {cs a c : List Value} (h1 : cs.take n = a) (h2 : cs.drop n = c) : cs = a ++ c := by rw [← h1, ← h2, List.take_append_drop]
theorem ev_of_rd {W : World} {cs : List Value} {x} (h : rdEv W cs x) : cs = evC (evOf x) ∧ EW (evOf x) ∧ ER W (evOf x) := by
  obtain ⟨h1, h2, h3, h4, h5, h6, h7⟩ := h
  obtain ⟨⟨a1, a2⟩, a3, a4⟩ := h1
  obtain ⟨b1, b2, b3⟩ := rdI_list h2
  obtain ⟨c1, c2⟩ := h3
  obtain ⟨d1, d2⟩ := h4
  obtain ⟨e1, e2⟩ := h5
  obtain ⟨f1, f2, f3⟩ := h6
  obtain ⟨g1, g2, g3⟩ := rdID_list h7
  refine ⟨?_, ⟨⟨f2, f3⟩, ⟨a2, a4⟩, g3, i64wf' c2, fun y hy => i64wf' (b3 y hy), d2, e2⟩, ⟨b2, g2⟩⟩
  exact cut_eq (cut_eq a1 a3) (cut_eq b1 (cut_eq c1 (cut_eq d1 (cut_eq e1 (cut_eq f1 g1)))))
/-- An event, as an argument. -/
structure EA (W : World) (v : Value) (e : Ev) : Prop where
  eq : v = evV e
  ew : EW e
  er : ER W e
theorem ea_of_rd {W : World} {cs : Array Value} {x} (h : rdEv W (Value.agg cs).cells.toList x) : EA W (.agg cs) (evOf x) := by
  obtain ⟨h1, h2, h3⟩ := ev_of_rd h
  refine ⟨?_, h2, h3⟩
  have h4 : cs.toList = evC (evOf x) := h1
  rw [evV, ← h4]
/-- A list of events; a list of what is held. -/
structure EAs (W : World) (v : Value) (l : List Ev) : Prop where
  el : EL W v l
  ew : ∀ e ∈ l, EW e
theorem es_of_rd {W : World} {v : Value} {x : Value × List _} (h : rdL 39 rdEv W [v] x) : EAs W v (x.2.map evOf) := by
  obtain ⟨h1, h2, h3⟩ := rdL_flat (p := fun e => EW e ∧ ER W e) (fun cs x hx => ev_of_rd hx) h
  simp only [List.cons.injEq, and_true] at h1
  subst h1
  exact ⟨⟨h2, fun m hm => (h3 m hm).2⟩, fun m hm => (h3 m hm).1⟩
theorem ER.ext {w w' : World} {e : Ev} (h : ER w e) (x : Ext w w') : ER w' e := ⟨h.dv.ext x, h.rv.ext x⟩
theorem WL.ext {w w' : World} {v : Value} {l : List Wn} (h : WL w v l) (x : Ext w w') : WL w' v l := ⟨h.sl.ext x, fun m hm => (h.er m hm).ext x⟩
theorem EL.ext {w w' : World} {v : Value} {l : List Ev} (h : EL w v l) (x : Ext w w') : EL w' v l := ⟨h.sl.ext x, fun m hm => (h.er m hm).ext x⟩
end Go.Proofs.YtaglpaoipdmboaaGreat
/- What is a repository's name: the plain law: a machine of four states, and the document's look at the last two bytes. Conditions: none. -/
namespace Go.Proofs.YtaglpaoipdmboaaGreat
open Go Go.Eng

def lowB (c : Int) : Bool := (decide (97 ≤ c) && decide (c ≤ 122)) || (decide (48 ≤ c) && decide (c ≤ 57))
theorem lowB_iff {c : Int} : lowB c = true ↔ (97 ≤ c ∧ c ≤ 122) ∨ (48 ≤ c ∧ c ≤ 57) := by simp [lowB]
inductive RK | word | inside | second | dashes
  deriving DecidableEq
abbrev RQ := RK × Nat
def wstep (n : Nat) (c : Int) : Option RQ := if lowB c = true then some (.inside, n) else none
def rstep : RQ → Int → Option RQ
  | (.word, n), c => wstep n c
  | (.inside, n), c => if c = 47 ∧ 0 < n then some (.word, n - 1) else if c = 46 then some (.word, n) else if c = 95 then some (.second, n) else if c = 45 then some (.dashes, n) else wstep n c
  | (.second, n), c => if c = 95 then some (.word, n) else wstep n c
  | (.dashes, n), c => if c = 45 then some (.dashes, n) else wstep n c
theorem wstep_ascii {n : Nat} {c : Int} {q : RQ} (h : wstep n c = some q) : 0 ≤ c ∧ c < 128 := by
  unfold wstep at h
  split at h
  · rename_i hl; have := lowB_iff.1 hl; omega
  · cases h
theorem rstep_ascii {q q' : RQ} {c : Int} (h : rstep q c = some q') : 0 ≤ c ∧ c < 128 := by
  obtain ⟨k, n⟩ := q
  cases k <;> simp only [rstep] at h
  · exact wstep_ascii h
  · split at h
    · omega
    · split at h
      · omega
      · split at h
        · omega
        · split at h
          · omega
          · exact wstep_ascii h
  · split at h
    · omega
    · exact wstep_ascii h
  · split at h
    · omega
    · exact wstep_ascii h

def lastB (L : List Int) : Int := L.getLast?.getD 47
def aheadB (L : List Int) : Int := L.dropLast.getLast?.getD 47
def slashes (L : List Int) : Nat := L.countP (fun c => decide (c = 47))
theorem lastB_snoc (L : List Int) (c : Int) : lastB (L ++ [c]) = c := by simp [lastB]
theorem aheadB_snoc (L : List Int) (c : Int) : aheadB (L ++ [c]) = lastB L := by simp [lastB, aheadB]
theorem slashes_snoc (L : List Int) (c : Int) : slashes (L ++ [c]) = slashes L + (if c = 47 then 1 else 0) := by
  simp only [slashes, List.countP_append, List.countP_cons, List.countP_nil, decide_eq_true_eq, Nat.zero_add]
def goesB (L : List Int) (c : Int) : Bool :=
  if lowB c = true then true
  else if lastB L = 47 ∨ lastB L = 46 then false
  else if lowB (lastB L) = true then decide (c = 46 ∨ c = 95 ∨ c = 45 ∨ c = 47)
  else if lastB L = 95 then decide (c = 95 ∧ aheadB L ≠ 95)
  else decide (c = 45)
def RRel (L : List Int) (q : RQ) : Prop := q.2 + slashes L = 7 ∧ match q.1 with
  | .word => lastB L = 47 ∨ lastB L = 46 ∨ (lastB L = 95 ∧ aheadB L = 95)
  | .inside => lowB (lastB L) = true
  | .second => lastB L = 95 ∧ aheadB L ≠ 95
  | .dashes => lastB L = 45
theorem rrel_nil : RRel [] (.word, 7) := ⟨rfl, .inl rfl⟩
theorem RRel.ends {L : List Int} {q : RQ} (h : RRel L q) : decide (q.1 = .inside) = lowB (lastB L) := by
  obtain ⟨k, n⟩ := q
  obtain ⟨_, h⟩ := h
  cases k <;> simp only at h
  · rcases h with h | h | ⟨h, _⟩ <;> rw [h] <;> rfl
  · rw [h]; rfl
  · rw [h.1]; rfl
  · rw [h]; rfl
theorem RRel.step {L : List Int} {q : RQ} (h : RRel L q) (c : Int) :
    (rstep q c).isSome = (goesB L c && decide (1 + slashes (L ++ [c]) ≤ 8)) ∧ ∀ q', rstep q c = some q' → RRel (L ++ [c]) q' := by
  obtain ⟨k, n⟩ := q
  obtain ⟨hn, h⟩ := h
  simp only at hn h
  have hs := slashes_snoc L c
  by_cases hl : lowB c = true
  · have hc := lowB_iff.1 hl
    have e47 : c ≠ 47 := by omega
    have hw : rstep (k, n) c = some (.inside, n) := by
      cases k <;> simp only [rstep, wstep, if_pos hl]
      · rw [if_neg (by omega), if_neg (by omega), if_neg (by omega), if_neg (by omega)]
      · rw [if_neg (by omega)]
      · rw [if_neg (by omega)]
    rw [hw]
    refine ⟨?_, ?_⟩
    · rw [hs, if_neg e47]
      simp only [goesB, if_pos hl, Option.isSome_some, Bool.true_and]
      exact (decide_eq_true (by omega)).symm
    · rintro q' he
      cases he
      refine ⟨?_, ?_⟩
      · simp only [hs, if_neg e47]; omega
      · simp only [lastB_snoc]; exact hl
  · have hw : ∀ n, wstep n c = none := fun n => by simp only [wstep, if_neg hl]
    have hnl : ∀ {x : Int}, x = 47 ∨ x = 46 ∨ x = 95 ∨ x = 45 → lowB x = false := by
      rintro x (rfl | rfl | rfl | rfl) <;> decide
    cases k
    · simp only [rstep, hw]
      refine ⟨?_, fun q' he => by cases he⟩
      have : goesB L c = false := by
        simp only [goesB, if_neg hl]
        rcases h with h | h | ⟨h, h'⟩
        · rw [if_pos (.inl h)]
        · rw [if_pos (.inr h)]
        · rw [if_neg (by omega), if_neg (by rw [hnl (.inr (.inr (.inl h)))]; simp), if_pos h]
          simp [h']
      rw [this]; rfl
    · simp only at h
      have hb : goesB L c = decide (c = 46 ∨ c = 95 ∨ c = 45 ∨ c = 47) := by
        simp only [goesB, if_neg hl]
        rw [if_neg (by
          rintro (e | e)
          · rw [hnl (.inl e)] at h; cases h
          · rw [hnl (.inr (.inl e))] at h; cases h), if_pos h]
      rw [hb]
      simp only [rstep, hw]
      by_cases e1 : c = 47
      · subst e1
        rw [if_pos rfl] at hs
        by_cases h0 : 0 < n
        · rw [if_pos ⟨rfl, h0⟩]
          refine ⟨?_, ?_⟩
          · rw [decide_eq_true (show 1 + slashes (L ++ [47]) ≤ 8 by omega)]; rfl
          · rintro q' he
            cases he
            exact ⟨by simp only [hs]; omega, by simp only [lastB_snoc]; exact .inl trivial⟩
        · rw [if_neg (by omega), if_neg (by omega), if_neg (by omega), if_neg (by omega)]
          refine ⟨?_, fun q' he => by cases he⟩
          rw [decide_eq_false (show ¬ (1 + slashes (L ++ [47]) ≤ 8) by omega), Bool.and_false]; rfl
      · rw [if_neg (by omega)]
        rw [if_neg e1] at hs
        have hd : decide (1 + slashes (L ++ [c]) ≤ 8) = true := decide_eq_true (by omega)
        rw [hd, Bool.and_true]
        by_cases e2 : c = 46
        · subst e2
          rw [if_pos rfl]
          refine ⟨rfl, ?_⟩
          rintro q' he
          cases he
          exact ⟨by simp only [hs]; omega, by simp only [lastB_snoc]; exact .inr (.inl trivial)⟩
        · rw [if_neg e2]
          by_cases e3 : c = 95
          · subst e3
            rw [if_pos rfl]
            refine ⟨rfl, ?_⟩
            rintro q' he
            cases he
            refine ⟨by simp only [hs]; omega, ?_⟩
            simp only [lastB_snoc, aheadB_snoc]
            exact ⟨trivial, fun e => by rw [e] at h; exact absurd h (by decide)⟩
          · rw [if_neg e3]
            by_cases e4 : c = 45
            · subst e4
              rw [if_pos rfl]
              refine ⟨rfl, ?_⟩
              rintro q' he
              cases he
              exact ⟨by simp only [hs]; omega, by simp only [lastB_snoc]⟩
            · rw [if_neg e4]
              exact ⟨(decide_eq_false (by omega)).symm, fun q' he => by cases he⟩
    · obtain ⟨h1, h2⟩ := h
      have hb : goesB L c = decide (c = 95 ∧ aheadB L ≠ 95) := by
        simp only [goesB, if_neg hl]
        rw [if_neg (by omega), if_neg (by rw [hnl (.inr (.inr (.inl h1)))]; simp), if_pos h1]
      rw [hb]
      simp only [rstep, hw]
      by_cases e3 : c = 95
      · subst e3
        rw [if_neg (by decide)] at hs
        rw [if_pos rfl]
        refine ⟨?_, ?_⟩
        · rw [decide_eq_true (⟨rfl, h2⟩ : (95 : Int) = 95 ∧ aheadB L ≠ 95)]
          simp; omega
        · rintro q' he
          cases he
          refine ⟨by simp only [hs]; omega, ?_⟩
          simp only [lastB_snoc, aheadB_snoc]
          exact .inr (.inr ⟨trivial, h1⟩)
      · rw [if_neg e3]
        refine ⟨?_, fun q' he => by cases he⟩
        rw [decide_eq_false (by omega)]; rfl
    · simp only at h
      have hb : goesB L c = decide (c = 45) := by
        simp only [goesB, if_neg hl]
        rw [if_neg (by omega), if_neg (by rw [hnl (.inr (.inr (.inr h)))]; simp), if_neg (by omega)]
      rw [hb]
      simp only [rstep, hw]
      by_cases e4 : c = 45
      · subst e4
        rw [if_neg (by decide)] at hs
        rw [if_pos rfl]
        refine ⟨?_, ?_⟩
        · simp; omega
        · rintro q' he
          cases he
          exact ⟨by simp only [hs]; omega, by simp only [lastB_snoc]⟩
      · rw [if_neg e4]
        refine ⟨?_, fun q' he => by cases he⟩
        rw [decide_eq_false e4]; rfl
def rfold : List Int → Option RQ := List.foldlM rstep (.word, 7)
theorem rfold_snoc (L : List Int) (c : Int) : rfold (L ++ [c]) = (rfold L).bind (rstep · c) := by
  simp only [rfold, List.foldlM_append, List.foldlM_cons, List.foldlM_nil]
  cases L.foldlM rstep (RK.word, 7) with
  | none => rfl
  | some q => simp only [Option.bind_eq_bind, Option.bind_some]; cases rstep q c <;> rfl
theorem rfold_rel {L : List Int} {q : RQ} (h : rfold L = some q) : RRel L q := by
  have key : ∀ (n : Nat) (L : List Int) (q : RQ), L.length = n → rfold L = some q → RRel L q := by
    intro n
    induction n with
    | zero =>
      intro L q hn h
      have : L = [] := List.eq_nil_of_length_eq_zero hn
      subst this
      cases h; exact rrel_nil
    | succ n ih =>
      intro L q hn h
      rcases List.eq_nil_or_concat L with rfl | ⟨L', c, rfl⟩
      · cases hn
      rw [List.concat_eq_append] at h hn ⊢
      rw [rfold_snoc] at h
      cases hL : rfold L' with
      | none => rw [hL] at h; cases h
      | some p => rw [hL] at h; exact ((ih L' p (by simpa using hn) hL).step c).2 q h
  exact key _ L q rfl h
theorem rfold_take {L : List Int} {p k : Nat} {q : RQ} (h : rfold (L.take p) = some q) (hk : k ≤ p) : ∃ q', rfold (L.take k) = some q' := by
  rw [show p = k + (p - k) by omega, List.take_add] at h
  simp only [rfold, List.foldlM_append] at h ⊢
  cases hf : List.foldlM rstep (RK.word, 7) (L.take k) with
  | none => rw [hf] at h; cases h
  | some q' => exact ⟨q', rfl⟩
/-- Where a text is no beginning of a name any more. -/
def badAt (L : List Int) : Option Nat := (List.range L.length).find? fun p => (rfold (L.take (p + 1))).isNone
theorem rfold_take_succ {L : List Int} {p : Nat} (hp : p < L.length) : rfold (L.take (p + 1)) = (rfold (L.take p)).bind (rstep · L[p]) := by
  rw [List.take_succ_eq_append_getElem hp, rfold_snoc]
theorem badAt_some {L : List Int} {p : Nat} {q : RQ} (hp : p < L.length) (h : rfold (L.take p) = some q) (h2 : rstep q L[p] = none) : badAt L = some p := by
  unfold badAt
  rw [List.find?_range_eq_some]
  refine ⟨?_, by simpa using hp, fun k hk => ?_⟩
  · rw [rfold_take_succ hp, h]; simp [h2]
  · obtain ⟨q', hq⟩ := rfold_take h (show k + 1 ≤ p by omega)
    rw [hq]; rfl
theorem badAt_none {L : List Int} {q : RQ} (h : rfold L = some q) : badAt L = none := by
  unfold badAt
  rw [List.find?_eq_none]
  intro k hk
  have h' : rfold (L.take L.length) = some q := by rw [List.take_length]; exact h
  obtain ⟨q', hq⟩ := rfold_take h' (show k + 1 ≤ L.length by have := List.mem_range.1 hk; omega)
  rw [hq]; simp
/-- Why a text is no repository's name. -/
def repoF (L : List Int) : Int × Int := if 128 < L.length then (4, 128) else match badAt L with
  | some p => (7, p)
  | none => if lowB (lastB L) = true then (0, 0) else (7, L.length)
theorem repoF_long {L : List Int} (h : 128 < L.length) : repoF L = (4, 128) := if_pos h
theorem repoF_bad {L : List Int} {p : Nat} {q : RQ} (hl : ¬ 128 < L.length) (hp : p < L.length) (h : rfold (L.take p) = some q) (h2 : rstep q L[p] = none) : repoF L = (7, (p : Int)) := by
  unfold repoF; rw [if_neg hl, badAt_some hp h h2]
theorem repoF_end {L : List Int} {q : RQ} (hl : ¬ 128 < L.length) (h : rfold L = some q) : repoF L = if q.1 = .inside then (0, 0) else (7, (L.length : Int)) := by
  unfold repoF; rw [if_neg hl, badAt_none h]
  have := (rfold_rel h).ends
  by_cases hq : q.1 = .inside
  · rw [if_pos hq]; rw [decide_eq_true hq] at this; simp only [← this, if_true]
  · rw [if_neg hq]; rw [decide_eq_false hq] at this; simp only [← this]; rfl
theorem strI_at {s : ByteArray} {p : Nat} (hp : p < s.size) (hl : p < (strI s).length) : (strI s)[p] = ((s[p]'hp).toNat : Int) := by
  simp only [strI, List.getElem_map, Array.getElem_toList]
  rfl
/-- A rune and the byte at which it begins move the machine alike. -/
theorem rune_step {s : ByteArray} {p : Nat} (hp : p < s.size) (hl : p < (strI s).length) (q : RQ) : rstep q ((Utf8.decode s p).1 : Int) = rstep q (strI s)[p] := by
  rw [strI_at hp hl]
  by_cases h : (s[p]'hp).toNat < 128
  · rw [Go.decode_ascii s p hp h]
  · have h1 := (Go.decode_high s p hp (by omega)).1
    cases e1 : rstep q ((Utf8.decode s p).1 : Int) with
    | some q' => have := rstep_ascii e1; omega
    | none =>
      cases e2 : rstep q ((s[p]'hp).toNat : Int) with
      | some q' => have := rstep_ascii e2; omega
      | none => rfl
theorem rune_one {s : ByteArray} {p : Nat} (hp : p < s.size) (hl : p < (strI s).length) {q q' : RQ} (h : rstep q (strI s)[p] = some q') : Utf8.decode s p = ((s[p]'hp).toNat, 1) := by
  rw [strI_at hp hl] at h
  have := rstep_ascii h
  exact Go.decode_ascii s p hp (by omega)
end Go.Proofs.YtaglpaoipdmboaaGreat
/- What is a repository's name: the program's machine. Conditions: none. -/
namespace Go.Proofs.YtaglpaoipdmboaaGreat
open Go Go.Eng

/-- The function that a state calls. -/
def nxF : RK → Nat
  | .word => n_name_repo_word
  | .inside => n_name_repo_inside
  | .second => n_name_repo_second
  | .dashes => n_name_repo_dashes
abbrev rpV (n : Nat) : Value := .agg ⟨[.int .i64 (n : Int)]⟩
def stN (q : RQ) : List Value := [.func (.func (nxF q.1)) ⟨[rpV q.2]⟩ ⟨[]⟩, .bool (decide (q.1 = .inside))]
abbrev pN (g : Nat) (q : RQ) : SP := pt g t_name_state (stN q)
section
variable {b : World} {F : List SP}
theorem nword_S {c : Int} : SC Tryz.prog n_name_letter_word [.int .i32 c] b F (fun v F' => v = .bool (lowB c) ∧ F' = F) := by
  refine enterS F_name_letter_word rfl rfl rfl ?_
  (refine sw_seq ?_; refine sw_region ?_; refine so_1 rfl ?_; refine so_nil ?_; refine sn_then ?_; refine sw_seq ?_; refine sw_region ?_; (iterate 3 refine so_1 rfl ?_))
  refine so_if 5 rfl (fun h1 => ?_) (fun h1 => ?_)
  · ((iterate 4 refine so_1 rfl ?_))
    refine so_if 9 rfl (fun h2 => ?_) (fun h2 => ?_)
    · ((iterate 8 refine so_1 rfl ?_); refine so_nil ?_; refine sn_then ?_; refine sw_ret ?_)
      refine sn_ret rfl (.tmp rfl .nil) (Ent.refl _) ?_
      exact ⟨congrArg Value.bool (by rw [lowB_iff.2 (by omega)]), rfl⟩
    · ((iterate 3 refine so_1 rfl ?_))
      refine so_if 12 rfl (fun h3 => ?_) (fun h3 => ?_)
      · ((iterate 5 refine so_1 rfl ?_); refine so_nil ?_; refine sn_then ?_; refine sw_ret ?_)
        refine sn_ret rfl (.tmp rfl .nil) (Ent.refl _) ?_
        exact ⟨congrArg Value.bool (by rw [Bool.eq_iff_iff, lowB_iff]; simp only [decide_eq_true_eq, reduceCtorEq, false_iff]; omega), rfl⟩
      · omega
  · ((iterate 7 refine so_1 rfl ?_))
    refine so_if 12 rfl (fun h3 => ?_) (fun h3 => ?_)
    · ((iterate 5 refine so_1 rfl ?_); refine so_nil ?_; refine sn_then ?_; refine sw_ret ?_)
      refine sn_ret rfl (.tmp rfl .nil) (Ent.refl _) ?_
      exact ⟨congrArg Value.bool (by rw [Bool.eq_iff_iff, lowB_iff]; simp only [decide_eq_true_eq, reduceCtorEq, false_iff]; omega), rfl⟩
    · ((iterate 5 refine so_1 rfl ?_); refine so_nil ?_; refine sn_then ?_; refine sw_ret ?_)
      refine sn_ret rfl (.tmp rfl .nil) (Ent.refl _) ?_
      exact ⟨congrArg Value.bool (by rw [Bool.eq_iff_iff, lowB_iff]; simp only [decide_eq_true_eq, reduceCtorEq, false_iff]; omega), rfl⟩
theorem npart_S {n : Nat} {x : Int} (hx : x = n) : SC Tryz.prog n_name_repo_part [.agg ⟨[.int .i64 x]⟩] b F (fun v F' => ∃ g, v = .pointer (some ⟨g, 0, none⟩) ∧ F' = pN g (.word, n) :: F) := by
  subst hx
  refine enterS F_name_repo_part rfl rfl rfl ?_
  (refine sw_seq ?_; refine sw_region ?_)
  refine so_box rfl rfl rfl rfl rfl fun g1 => ?_
  (refine so_1 rfl ?_; refine so_nil ?_; refine sn_then ?_; refine sw_seq ?_; refine sw_region ?_; refine so_l 0 rfl rfl rfl ?_; (iterate 2 refine so_1 rfl ?_))
  refine so_box rfl rfl rfl rfl rfl fun g2 => ?_
  (refine so_1 rfl ?_; refine so_nil ?_; refine sn_then ?_; refine sw_ret ?_)
  refine sn_ret rfl (.tmp rfl .nil) (ent_keep 2 [0] rfl rfl) ?_
  exact ⟨g2, rfl, rfl⟩
/-- What a state's function tells. -/
def NxR (F : List SP) (o : Option RQ) (v : Value) (F' : List SP) : Prop := match o with
  | some q => ∃ g, v = .pointer (some ⟨g, 0, none⟩) ∧ F' = pN g q :: F
  | none => v = .pointer none ∧ F' = F
theorem nwordS_S {n : Nat} {c : Int} : SC Tryz.prog n_name_repo_word [rpV n, .int .i32 c] b F (NxR F (rstep (.word, n) c)) := by
  refine enterS F_name_repo_word rfl rfl rfl ?_
  (refine sw_seq ?_; refine sw_region ?_)
  refine so_box rfl rfl rfl rfl rfl fun g1 => ?_
  (refine so_1 rfl ?_; refine so_nil ?_; refine sn_then ?_; (iterate 2 refine sw_seq ?_); refine sw_region ?_; refine so_1 rfl ?_)
  refine so_callE rfl rfl rfl (nword_S) ?_
  (refine so_nil ?_; refine sn_then ?_)
  by_cases h : lowB c = true
  · simp only [h]
    (refine sw_cond_t rfl ?_; refine sw_seq ?_; refine sw_region ?_; refine so_l 0 rfl rfl rfl ?_; (iterate 2 refine so_1 rfl ?_))
    refine so_box rfl rfl rfl rfl rfl fun g2 => ?_
    (refine so_1 rfl ?_; refine so_nil ?_; refine sn_then ?_; refine sw_ret ?_; refine sn_then_ret ?_)
    refine sn_ret rfl (.tmp rfl .nil) (ent_keep 2 [0] rfl rfl) ?_
    simp only [rstep, wstep, if_pos h]
    exact ⟨g2, rfl, rfl⟩
  · have h' : lowB c = false := by simpa using h
    simp only [h']
    (refine sw_cond_f rfl ?_; refine sw_skip ?_; refine sn_then ?_; refine sw_seq ?_; refine sw_region ?_; refine so_1 rfl ?_; refine so_nil ?_; refine sn_then ?_; refine sw_ret ?_)
    refine sn_ret rfl (.tmp rfl .nil) (ent_keep 1 [] rfl rfl) ?_
    simp only [rstep, wstep, if_neg h]
    exact ⟨rfl, rfl⟩
theorem NxR.drop {A : SP} {F : List SP} {o : Option RQ} {v : Value} {F' : List SP} (h : NxR (A :: F) o v F') : ∃ G, Ent F' G ∧ NxR F o v G := by
  cases o with
  | none => obtain ⟨h1, rfl⟩ := h; exact ⟨F, ent_keep 1 [] rfl rfl, h1, rfl⟩
  | some q => obtain ⟨g, h1, rfl⟩ := h; exact ⟨pN g q :: F, ent_keep 2 [0] rfl rfl, g, h1, rfl⟩
theorem nsecond_S {n : Nat} {c : Int} : SC Tryz.prog n_name_repo_second [rpV n, .int .i32 c] b F (NxR F (rstep (.second, n) c)) := by
  refine enterS F_name_repo_second rfl rfl rfl ?_
  (refine sw_seq ?_; refine sw_region ?_)
  refine so_box rfl rfl rfl rfl rfl fun g1 => ?_
  (refine so_1 rfl ?_; refine so_nil ?_; refine sn_then ?_; (iterate 2 refine sw_seq ?_); refine sw_region ?_; (iterate 2 refine so_1 rfl ?_); refine so_nil ?_; refine sn_then ?_)
  refine sw_if rfl (fun h => ?_) (fun h => ?_)
  · (refine sw_seq ?_; refine sw_region ?_; refine so_l 0 rfl rfl rfl ?_; (iterate 2 refine so_1 rfl ?_))
    refine so_box rfl rfl rfl rfl rfl fun g2 => ?_
    (refine so_1 rfl ?_; refine so_nil ?_; refine sn_then ?_; refine sw_ret ?_; refine sn_then_ret ?_)
    refine sn_ret rfl (.tmp rfl .nil) (ent_keep 2 [0] rfl rfl) ?_
    simp only [rstep, if_pos h]
    exact ⟨g2, rfl, rfl⟩
  · (refine sw_skip ?_; refine sn_then ?_; refine sw_seq ?_; refine sw_region ?_; refine so_l 0 rfl rfl rfl ?_; refine so_1 rfl ?_)
    refine so_call rfl rfl rfl (nwordS_S) ?_
    rintro v F' hR
    obtain ⟨G, hG, hR'⟩ := hR.drop
    (refine so_1 rfl ?_; refine so_nil ?_; refine sn_then ?_; refine sw_ret ?_)
    refine sn_ret rfl (.tmp rfl .nil) (hG) ?_
    simp only [rstep, if_neg h]
    exact hR'
theorem ndashes_S {n : Nat} {c : Int} : SC Tryz.prog n_name_repo_dashes [rpV n, .int .i32 c] b F (NxR F (rstep (.dashes, n) c)) := by
  refine enterS F_name_repo_dashes rfl rfl rfl ?_
  (refine sw_seq ?_; refine sw_region ?_)
  refine so_box rfl rfl rfl rfl rfl fun g1 => ?_
  (refine so_1 rfl ?_; refine so_nil ?_; refine sn_then ?_; (iterate 2 refine sw_seq ?_); refine sw_region ?_; (iterate 2 refine so_1 rfl ?_); refine so_nil ?_; refine sn_then ?_)
  refine sw_if rfl (fun h => ?_) (fun h => ?_)
  · (refine sw_seq ?_; refine sw_region ?_; refine so_l 0 rfl rfl rfl ?_; (iterate 2 refine so_1 rfl ?_))
    refine so_box rfl rfl rfl rfl rfl fun g2 => ?_
    (refine so_1 rfl ?_; refine so_nil ?_; refine sn_then ?_; refine sw_ret ?_; refine sn_then_ret ?_)
    refine sn_ret rfl (.tmp rfl .nil) (ent_keep 2 [0] rfl rfl) ?_
    simp only [rstep, if_pos h]
    exact ⟨g2, rfl, rfl⟩
  · (refine sw_skip ?_; refine sn_then ?_; refine sw_seq ?_; refine sw_region ?_; refine so_l 0 rfl rfl rfl ?_; refine so_1 rfl ?_)
    refine so_call rfl rfl rfl (nwordS_S) ?_
    rintro v F' hR
    obtain ⟨G, hG, hR'⟩ := hR.drop
    (refine so_1 rfl ?_; refine so_nil ?_; refine sn_then ?_; refine sw_ret ?_)
    refine sn_ret rfl (.tmp rfl .nil) (hG) ?_
    simp only [rstep, if_neg h]
    exact hR'
theorem ninside_S {n : Nat} {c : Int} (h7 : n ≤ 7) : SC Tryz.prog n_name_repo_inside [rpV n, .int .i32 c] b F (NxR F (rstep (.inside, n) c)) := by
  refine enterS F_name_repo_inside rfl rfl rfl ?_
  (refine sw_seq ?_; refine sw_region ?_)
  refine so_box rfl rfl rfl rfl rfl fun g1 => ?_
  (refine so_1 rfl ?_; refine so_nil ?_; refine sn_then ?_; refine sw_seq ?_; refine sw_block ?_; refine sw_seq ?_; refine sw_region ?_; (iterate 3 refine so_1 rfl ?_))
  refine so_if 8 rfl (fun h1 => ?_) (fun h1 => ?_)
  · (refine so_1 rfl ?_; refine so_l 0 rfl rfl rfl ?_; (iterate 3 refine so_1 rfl ?_); refine so_nil ?_; refine sn_then ?_)
    refine sw_if rfl (fun h2 => ?_) (fun h2 => ?_)
    · (refine sw_seq ?_; refine sw_region ?_; refine so_1 rfl ?_; refine so_l 0 rfl rfl rfl ?_; refine so_2 rfl (by (unfold I64; omega)) ?_; refine so_1 rfl ?_)
      have hn : 0 < n := by omega
      refine so_call rfl rfl rfl (npart_S (n := n - 1) (by omega)) ?_
      rintro v F' ⟨g, rfl, rfl⟩
      (refine so_1 rfl ?_; refine so_nil ?_; refine sn_then ?_; refine sw_ret ?_; refine sn_block_ret ?_; refine sn_then_ret ?_)
      refine sn_ret rfl (.tmp rfl .nil) (ent_keep 2 [0] rfl rfl) ?_
      simp only [rstep, if_pos (⟨h1, hn⟩ : c = 47 ∧ 0 < n)]
      exact ⟨g, rfl, rfl⟩
    · have hn : ¬ (c = 47 ∧ 0 < n) := by omega
      (refine sw_seq ?_; refine sw_region ?_; (iterate 3 refine so_1 rfl ?_); refine so_nil ?_; refine sn_then ?_)
      refine sw_if rfl (fun h => absurd h (by omega)) (fun h3 => ?_)
      (refine sw_seq ?_; refine sw_region ?_; (iterate 3 refine so_1 rfl ?_); refine so_nil ?_; refine sn_then ?_)
      refine sw_if rfl (fun h => absurd h (by omega)) (fun h4 => ?_)
      (refine sw_seq ?_; refine sw_region ?_; (iterate 3 refine so_1 rfl ?_); refine so_nil ?_; refine sn_then ?_)
      refine sw_if rfl (fun h => absurd h (by omega)) (fun h5 => ?_)
      (refine sw_skip ?_; refine sn_block ?_; refine sn_then ?_; refine sw_seq ?_; refine sw_region ?_; refine so_l 0 rfl rfl rfl ?_; refine so_1 rfl ?_)
      refine so_call rfl rfl rfl (nwordS_S) ?_
      rintro v F' hR
      obtain ⟨G, hG, hR'⟩ := hR.drop
      (refine so_1 rfl ?_; refine so_nil ?_; refine sn_then ?_; refine sw_ret ?_)
      refine sn_ret rfl (.tmp rfl .nil) (hG) ?_
      simp only [rstep, if_neg hn, if_neg h3, if_neg h4, if_neg h5]
      exact hR'
  · have hn : ¬ (c = 47 ∧ 0 < n) := by omega
    ((iterate 5 refine so_1 rfl ?_); refine so_nil ?_; refine sn_then ?_; refine sw_cond_f rfl ?_; refine sw_seq ?_; refine sw_region ?_; (iterate 3 refine so_1 rfl ?_); refine so_nil ?_; refine sn_then ?_)
    refine sw_if rfl (fun h3 => ?_) (fun h3 => ?_)
    · (refine sw_seq ?_; refine sw_region ?_; refine so_l 0 rfl rfl rfl ?_; (iterate 2 refine so_1 rfl ?_))
      refine so_box rfl rfl rfl rfl rfl fun g2 => ?_
      (refine so_1 rfl ?_; refine so_nil ?_; refine sn_then ?_; refine sw_ret ?_; refine sn_block_ret ?_; refine sn_then_ret ?_)
      refine sn_ret rfl (.tmp rfl .nil) (ent_keep 2 [0] rfl rfl) ?_
      simp only [rstep, if_neg hn, if_pos h3]
      exact ⟨g2, rfl, rfl⟩
    (refine sw_seq ?_; refine sw_region ?_; (iterate 3 refine so_1 rfl ?_); refine so_nil ?_; refine sn_then ?_)
    refine sw_if rfl (fun h4 => ?_) (fun h4 => ?_)
    · (refine sw_seq ?_; refine sw_region ?_; refine so_l 0 rfl rfl rfl ?_; (iterate 2 refine so_1 rfl ?_))
      refine so_box rfl rfl rfl rfl rfl fun g2 => ?_
      (refine so_1 rfl ?_; refine so_nil ?_; refine sn_then ?_; refine sw_ret ?_; refine sn_block_ret ?_; refine sn_then_ret ?_)
      refine sn_ret rfl (.tmp rfl .nil) (ent_keep 2 [0] rfl rfl) ?_
      simp only [rstep, if_neg hn, if_neg h3, if_pos h4]
      exact ⟨g2, rfl, rfl⟩
    (refine sw_seq ?_; refine sw_region ?_; (iterate 3 refine so_1 rfl ?_); refine so_nil ?_; refine sn_then ?_)
    refine sw_if rfl (fun h5 => ?_) (fun h5 => ?_)
    · (refine sw_seq ?_; refine sw_region ?_; refine so_l 0 rfl rfl rfl ?_; (iterate 2 refine so_1 rfl ?_))
      refine so_box rfl rfl rfl rfl rfl fun g2 => ?_
      (refine so_1 rfl ?_; refine so_nil ?_; refine sn_then ?_; refine sw_ret ?_; refine sn_block_ret ?_; refine sn_then_ret ?_)
      refine sn_ret rfl (.tmp rfl .nil) (ent_keep 2 [0] rfl rfl) ?_
      simp only [rstep, if_neg hn, if_neg h3, if_neg h4, if_pos h5]
      exact ⟨g2, rfl, rfl⟩
    (refine sw_skip ?_; refine sn_block ?_; refine sn_then ?_; refine sw_seq ?_; refine sw_region ?_; refine so_l 0 rfl rfl rfl ?_; refine so_1 rfl ?_)
    refine so_call rfl rfl rfl (nwordS_S) ?_
    rintro v F' hR
    obtain ⟨G, hG, hR'⟩ := hR.drop
    (refine so_1 rfl ?_; refine so_nil ?_; refine sn_then ?_; refine sw_ret ?_)
    refine sn_ret rfl (.tmp rfl .nil) (hG) ?_
    simp only [rstep, if_neg hn, if_neg h3, if_neg h4, if_neg h5]
    exact hR'
theorem nx_S {q : RQ} {c : Int} (h7 : q.2 ≤ 7) : SC Tryz.prog (nxF q.1) [rpV q.2, .int .i32 c] b F (NxR F (rstep q c)) := by
  obtain ⟨k, n⟩ := q
  cases k
  · exact nwordS_S
  · exact ninside_S h7
  · exact nsecond_S
  · exact ndashes_S
instance nx_bodied (q : RQ) : Bodied Tryz.prog (nxF q.1) := by
  obtain ⟨k, n⟩ := q
  cases k <;> (dsimp only [nxF]; infer_instance)
end
end Go.Proofs.YtaglpaoipdmboaaGreat
/- What is a repository's name: Repo. Conditions: none. -/
namespace Go.Proofs.YtaglpaoipdmboaaGreat
open Go Go.Eng

/-- A fault. -/
abbrev ftV (f : Int × Int) : Value := .agg ⟨[.int .i64 f.1, .int .i64 f.2]⟩
section
variable {b : World} {F : List SP}
theorem nrun_S {s : ByteArray} {g : Nat} (hl : ¬ 128 < (strI s).length) : SC Tryz.prog n_name_run [.string s, .pointer (some ⟨g, 0, none⟩), .int .i64 7] b (pN g (.word, 7) :: F) (fun v F' => v = ftV (repoF (strI s)) ∧ F' = F) := by
  have hsz := strI_length s
  refine enterS F_name_run rfl rfl rfl ?_
  (refine sw_seq ?_; refine sw_region ?_)
  refine so_new rfl rfl rfl rfl rfl fun g6 => ?_
  (refine so_nil ?_; refine sn_then ?_; (iterate 2 refine sw_seq ?_); refine sw_region ?_; refine so_1 rfl ?_)
  refine so_rangeS rfl rfl rfl rfl rfl rfl fun gi => ?_
  (refine so_nil ?_; refine sn_then ?_; refine sw_block ?_)
  refine sw_loop (S := Nat × RQ × Nat) (fun s' => [(0, .string s), (1, .pointer (some ⟨s'.2.2, 0, none⟩)), (2, .int .i64 7), (6, .pointer (some ⟨g6, 0, none⟩)), (10, .pointer (some ⟨gi, 0, none⟩))]) (fun s' => ob gi (.stringIter s s'.1) :: pN s'.2.2 s'.2.1 :: pt g6 t_api_Fault [.int .i64 0, .int .i64 0] :: F)
    (fun s' => s'.1 ≤ s.size ∧ rfold ((strI s).take s'.1) = some s'.2.1) (fun s' => s.size - s'.1) (0, (.word, 7), g) ⟨rfl, rfl, rfl, rfl, rfl, trivial⟩ (ent_keep 3 [0, 2, 1] rfl rfl) ⟨Nat.zero_le _, rfl⟩ ?_
  rintro ⟨p, q, gq⟩ ⟨hp, hq⟩
  dsimp only at hp hq ⊢
  (refine sw_seq ?_; refine sw_region ?_)
  by_cases hlt : p < s.size
  · have hpl : p < (strI s).length := by omega
    have h7 : q.2 ≤ 7 := by have := (rfold_rel hq).1; omega
    have hstep := rune_step hlt hpl q
    refine so_nextS 0 rfl rfl rfl rfl rfl hlt rfl ?_
    (refine so_1 rfl ?_; refine so_nil ?_; refine sn_then ?_; refine sw_seq ?_; refine sw_cond_t rfl ?_; refine sw_skip ?_; refine sn_then ?_; refine sw_block ?_; refine sw_seq ?_; refine sw_region ?_; (iterate 4 refine so_1 rfl ?_); refine so_nil ?_; refine sn_then ?_; refine sw_seq ?_; refine sw_region ?_; (iterate 3 refine so_1 rfl ?_); refine so_l 1 rfl rfl rfl ?_; refine so_1 rfl ?_)
    refine so_call rfl rfl rfl (nx_S h7) ?_
    rintro v F' hR
    rw [hstep] at hR
    cases hr : rstep q (strI s)[p] with
    | none =>
      rw [hr] at hR
      obtain ⟨rfl, rfl⟩ := hR
      (refine so_1 rfl ?_; refine so_nil ?_; refine sn_then ?_; refine sw_seq ?_; refine sw_region ?_; (iterate 2 refine so_1 rfl ?_); refine so_nil ?_; refine sn_then ?_; refine sw_cond_t rfl ?_; refine sw_seq ?_; refine sw_region ?_; (iterate 3 refine so_1 rfl ?_); refine so_s1 2 rfl rfl rfl rfl ?_; refine so_nil ?_; refine sn_then ?_; refine sw_ret ?_; refine sn_block_ret ?_; refine sn_loop_ret ?_; refine sn_block_ret ?_; refine sn_then_ret ?_)
      refine sn_ret rfl (.agg 2 rfl rfl rfl rfl rfl .nil) (ent_keep 3 [] rfl rfl) ?_
      exact ⟨by rw [repoF_bad hl hpl hq hr]; rfl, rfl⟩
    | some q' =>
      rw [hr] at hR
      obtain ⟨g', rfl, rfl⟩ := hR
      have h1 := rune_one hlt hpl hr
      (refine so_1 rfl ?_; refine so_nil ?_; refine sn_then ?_; refine sw_seq ?_; refine sw_region ?_; (iterate 2 refine so_1 rfl ?_); refine so_nil ?_; refine sn_then ?_; refine sw_cond_f rfl ?_; refine sw_skip ?_; refine sn_block ?_)
      refine sn_round (p + 1, q', g') ⟨rfl, rfl, rfl, rfl, rfl, trivial⟩ ?_ ⟨hlt, ?_⟩ (by dsimp only; omega)
      · rw [h1]
        exact ent_keep 4 [1, 0, 3] rfl rfl
      · rw [rfold_take_succ hpl, hq]; exact hr
  · refine so_nextSE 0 rfl rfl rfl rfl rfl (by omega) ?_
    have hq' : rfold (strI s) = some q := by rw [← hq, List.take_of_length_le (by omega)]
    have he := repoF_end hl hq'
    (refine so_1 rfl ?_; refine so_nil ?_; refine sn_then ?_; refine sw_seq ?_; refine sw_cond_f rfl ?_; refine sw_exit ?_; refine sn_then_exit ?_; refine sn_loop_exit ?_; refine sn_block_exit ?_; refine sn_then ?_; (iterate 2 refine sw_seq ?_); refine sw_region ?_; (iterate 3 refine so_1 rfl ?_); refine so_l 1 rfl rfl rfl ?_; refine so_1 rfl ?_; refine so_nil ?_; refine sn_then ?_)
    by_cases hin : q.1 = .inside
    · refine sw_know 30 (.bool false) rfl (by simp [hin]) ?_
      (refine sw_cond_f rfl ?_; refine sw_skip ?_; refine sn_then ?_; refine sw_seq ?_; refine sw_region ?_; refine so_1 rfl ?_; refine so_s1 2 rfl rfl rfl rfl ?_; refine so_nil ?_; refine sn_then ?_; refine sw_ret ?_)
      refine sn_ret rfl (.agg 2 rfl rfl rfl rfl rfl .nil) (ent_keep 3 [] rfl rfl) ?_
      exact ⟨by rw [he, if_pos hin]; rfl, rfl⟩
    · refine sw_know 30 (.bool true) rfl (by simp [hin]) ?_
      (refine sw_cond_t rfl ?_; refine sw_seq ?_; refine sw_region ?_; (iterate 4 refine so_1 rfl ?_); refine so_s1 2 rfl rfl rfl rfl ?_; refine so_nil ?_; refine sn_then ?_; refine sw_ret ?_; refine sn_then_ret ?_)
      refine sn_ret rfl (.agg 2 rfl rfl rfl rfl rfl .nil) (ent_keep 3 [] rfl rfl) ?_
      exact ⟨by rw [he, if_neg hin, hsz]; rfl, rfl⟩
theorem nlong_S {s : ByteArray} {m : Int} : SC Tryz.prog n_name_long [.string s, .int .i64 m] b F (fun v F' => (if m < s.size then v = .tuple ⟨[ftV (4, m), .bool true]⟩ else v = .tuple ⟨[ftV (0, 0), .bool false]⟩) ∧ F' = F) := by
  refine enterS F_name_long rfl rfl rfl ?_
  (refine sw_seq ?_; refine sw_region ?_)
  refine so_new rfl rfl rfl rfl rfl fun g4 => ?_
  (refine so_1 rfl ?_; refine so_nil ?_; refine sn_then ?_; (iterate 2 refine sw_seq ?_); refine sw_region ?_; (iterate 4 refine so_1 rfl ?_); refine so_nil ?_; refine sn_then ?_)
  refine sw_if rfl (fun h => ?_) (fun h => ?_)
  · (refine sw_seq ?_; refine sw_region ?_; (iterate 2 refine so_1 rfl ?_); refine so_s1 0 rfl rfl rfl rfl ?_; refine so_1 rfl ?_; refine so_nil ?_; refine sn_then ?_; refine sw_ret ?_; refine sn_then_ret ?_)
    refine sn_ret rfl (.agg 0 rfl rfl rfl rfl rfl (.tmp rfl .nil)) (ent_keep 1 [] rfl rfl) ?_
    exact ⟨by rw [if_pos (by omega)]; rfl, rfl⟩
  · (refine sw_skip ?_; refine sn_then ?_; refine sw_seq ?_; refine sw_region ?_; refine so_1 rfl ?_; refine so_s1 0 rfl rfl rfl rfl ?_; refine so_1 rfl ?_; refine so_nil ?_; refine sn_then ?_; refine sw_ret ?_)
    refine sn_ret rfl (.agg 0 rfl rfl rfl rfl rfl (.tmp rfl .nil)) (ent_keep 1 [] rfl rfl) ?_
    exact ⟨by rw [if_neg (by omega)]; rfl, rfl⟩
theorem Repo_S {s : ByteArray} : SC Tryz.prog n_name_Repo [.string s] b F (fun v F' => v = ftV (repoF (strI s)) ∧ F' = F) := by
  have hsz := strI_length s
  refine enterS F_name_Repo rfl rfl rfl ?_
  (refine sw_seq ?_; refine sw_region ?_)
  refine so_new rfl rfl rfl rfl rfl fun g2 => ?_
  (refine so_nil ?_; refine sn_then ?_; (iterate 2 refine sw_seq ?_); refine sw_region ?_; refine so_1 rfl ?_)
  refine so_call rfl rfl rfl (nlong_S) ?_
  rintro v F' ⟨hv, rfl⟩
  by_cases h : (128 : Int) < s.size
  · rw [if_pos h] at hv
    subst hv
    ((iterate 3 refine so_1 rfl ?_))
    refine so_new rfl rfl rfl rfl rfl fun g3 => ?_
    (refine so_s1 0 rfl rfl rfl rfl ?_; refine so_1 rfl ?_; refine so_nil ?_; refine sn_then ?_; refine sw_seq ?_; refine sw_region ?_; refine so_1 rfl ?_; refine so_nil ?_; refine sn_then ?_; refine sw_cond_t rfl ?_; refine sw_seq ?_; refine sw_region ?_; refine so_l 0 rfl rfl rfl ?_; refine so_s1 1 rfl rfl rfl rfl ?_; refine so_nil ?_; refine sn_then ?_; refine sw_ret ?_; refine sn_then_ret ?_)
    refine sn_ret rfl (.agg 1 rfl rfl rfl rfl rfl .nil) (ent_keep 2 [] rfl rfl) ?_
    exact ⟨by rw [repoF_long (by omega)]; rfl, rfl⟩
  · rw [if_neg h] at hv
    subst hv
    ((iterate 3 refine so_1 rfl ?_))
    refine so_new rfl rfl rfl rfl rfl fun g3 => ?_
    (refine so_s1 0 rfl rfl rfl rfl ?_; refine so_1 rfl ?_; refine so_nil ?_; refine sn_then ?_; refine sw_seq ?_; refine sw_region ?_; refine so_1 rfl ?_; refine so_nil ?_; refine sn_then ?_; refine sw_cond_f rfl ?_; refine sw_skip ?_; refine sn_then ?_; refine sw_seq ?_; refine sw_region ?_; (iterate 2 refine so_1 rfl ?_))
    refine so_call rfl rfl rfl (npart_S (n := 7) rfl) ?_
    rintro v F' ⟨g, rfl, rfl⟩
    skip
    refine so_call rfl rfl rfl (nrun_S (by omega)) ?_
    rintro v F' ⟨rfl, rfl⟩
    (refine so_s1 1 rfl rfl rfl rfl ?_; refine so_nil ?_; refine sn_then ?_; refine sw_ret ?_)
    refine sn_ret rfl (.agg 1 rfl rfl rfl rfl rfl .nil) (ent_keep 2 [] rfl rfl) ?_
    exact ⟨rfl, rfl⟩
end
end Go.Proofs.YtaglpaoipdmboaaGreat
/- What is a repository's name: the document's answer. Conditions: none. -/
namespace Go.Proofs.YtaglpaoipdmboaaGreat
open Go Go.Eng

section
variable {b : World} {F : List SP}
end
end Go.Proofs.YtaglpaoipdmboaaGreat
/- What is a tag: the plain law. Conditions: none. -/
namespace Go.Proofs.YtaglpaoipdmboaaGreat
open Go Go.Eng

def tagC (c : Int) : Bool := lowB c || (decide (65 ≤ c) && decide (c ≤ 90)) || decide (c = 95) || decide (c = 46) || decide (c = 45)
def tOk (i : Nat) (c : Int) : Bool := tagC c && (decide (i ≠ 0) || (decide (c ≠ 46) && decide (c ≠ 45)))
theorem tagC_iff {c : Int} : tagC c = true ↔ (97 ≤ c ∧ c ≤ 122) ∨ (48 ≤ c ∧ c ≤ 57) ∨ (65 ≤ c ∧ c ≤ 90) ∨ c = 95 ∨ c = 46 ∨ c = 45 := by
  simp only [tagC, Bool.or_eq_true, Bool.and_eq_true, decide_eq_true_eq, lowB_iff]; omega
theorem tOk_iff {i : Nat} {c : Int} : tOk i c = true ↔ ((97 ≤ c ∧ c ≤ 122) ∨ (48 ≤ c ∧ c ≤ 57) ∨ (65 ≤ c ∧ c ≤ 90) ∨ c = 95 ∨ c = 46 ∨ c = 45) ∧ (i ≠ 0 ∨ (c ≠ 46 ∧ c ≠ 45)) := by
  simp only [tOk, Bool.and_eq_true, Bool.or_eq_true, tagC_iff, decide_eq_true_eq]
theorem tOk_ascii {i : Nat} {c : Int} (h : tOk i c = true) : 0 ≤ c ∧ c < 128 := by have := tOk_iff.1 h; omega
def tBad (L : List Int) : Option Nat := (List.range L.length).find? fun p => !tOk p (L[p]?.getD 0)
def tGood (L : List Int) (p : Nat) : Prop := ∀ k, k < p → ∀ h : k < L.length, tOk k L[k] = true
theorem tBad_some {L : List Int} {p : Nat} (hp : p < L.length) (h : tGood L p) (h2 : tOk p L[p] = false) : tBad L = some p := by
  unfold tBad
  rw [List.find?_range_eq_some]
  refine ⟨by rw [List.getElem?_eq_getElem hp]; simp [h2], by simpa using hp, fun k hk => ?_⟩
  rw [List.getElem?_eq_getElem (by omega)]
  simp [h k hk (by omega)]
theorem tBad_none {L : List Int} (h : tGood L L.length) : tBad L = none := by
  unfold tBad
  rw [List.find?_eq_none]
  intro k hk
  have hk := List.mem_range.1 hk
  rw [List.getElem?_eq_getElem hk]
  simp [h k hk hk]
/-- Why a text is no tag. -/
def tagF (L : List Int) : Int × Int := if 64 < L.length then (4, 64) else match tBad L with
  | some p => (7, p)
  | none => if L.length = 0 then (7, 0) else (0, 0)
theorem tagF_long {L : List Int} (h : 64 < L.length) : tagF L = (4, 64) := if_pos h
theorem tagF_bad {L : List Int} {p : Nat} (hl : ¬ 64 < L.length) (hp : p < L.length) (h : tGood L p) (h2 : tOk p L[p] = false) : tagF L = (7, (p : Int)) := by
  unfold tagF; rw [if_neg hl, tBad_some hp h h2]
theorem tagF_end {L : List Int} (hl : ¬ 64 < L.length) (h : tGood L L.length) : tagF L = if L.length = 0 then (7, 0) else (0, 0) := by
  unfold tagF; rw [if_neg hl, tBad_none h]
theorem tGood.step {L : List Int} {p : Nat} (h : tGood L p) (hp : p < L.length) (h2 : tOk p L[p] = true) : tGood L (p + 1) := by
  intro k hk hl
  by_cases e : k = p
  · subst e; exact h2
  · exact h k (by omega) hl
theorem rune_tok {s : ByteArray} {p i : Nat} (hp : p < s.size) (hl : p < (strI s).length) : tOk i ((Utf8.decode s p).1 : Int) = tOk i (strI s)[p] := by
  rw [strI_at hp hl]
  by_cases h : (s[p]'hp).toNat < 128
  · rw [Go.decode_ascii s p hp h]
  · have h1 := (Go.decode_high s p hp (by omega)).1
    cases e1 : tOk i ((Utf8.decode s p).1 : Int) with
    | true => have := tOk_ascii e1; omega
    | false =>
      cases e2 : tOk i ((s[p]'hp).toNat : Int) with
      | true => have := tOk_ascii e2; omega
      | false => rfl
theorem rune_tone {s : ByteArray} {p i : Nat} (hp : p < s.size) (hl : p < (strI s).length) (h : tOk i (strI s)[p] = true) : Utf8.decode s p = ((s[p]'hp).toNat, 1) := by
  rw [strI_at hp hl] at h
  have := tOk_ascii h
  exact Go.decode_ascii s p hp (by omega)
end Go.Proofs.YtaglpaoipdmboaaGreat
/- What is a tag: the program's answer. Conditions: none. -/
namespace Go.Proofs.YtaglpaoipdmboaaGreat
open Go Go.Eng

abbrev tagFn : Value := .func (.func n_name_letter_tag) ⟨[]⟩ ⟨[]⟩
/-- The state in which all further runes are a tag's. -/
abbrev pAll (gs g1 g3 : Nat) : List SP := [pt gs t_name_state [.func (.func n_name_all_1) ⟨[]⟩ ⟨[.pointer (some ⟨g1, 0, none⟩), .pointer (some ⟨g3, 0, none⟩)]⟩, .bool true], pt g1 t_func_name_letter_bool [tagFn], pt g3 t_p_name_state [.pointer (some ⟨gs, 0, none⟩)]]
section
variable {b : World} {F : List SP}
theorem nltag_S {c : Int} : SC Tryz.prog n_name_letter_tag [.int .i32 c] b F (fun v F' => v = .bool (tagC c) ∧ F' = F) := by
  refine enterS F_name_letter_tag rfl rfl rfl ?_
  (refine sw_seq ?_; refine sw_region ?_; refine so_1 rfl ?_; refine so_nil ?_; refine sn_then ?_; refine sw_seq ?_; refine sw_region ?_; refine so_1 rfl ?_)
  refine so_callE rfl rfl rfl (nword_S) ?_
  (refine so_1 rfl ?_)
  by_cases h : lowB c = true
  · rw [h]
    ((iterate 20 refine so_1 rfl ?_); refine so_nil ?_; refine sn_then ?_; refine sw_ret ?_)
    refine sn_ret rfl (.tmp rfl .nil) (Ent.refl _) ?_
    exact ⟨congrArg Value.bool (by simp [tagC, h]), rfl⟩
  have h' : lowB c = false := by simpa using h
  rw [h']
  ((iterate 3 refine so_1 rfl ?_))
  refine so_if 8 rfl (fun h1 => ?_) (fun h1 => ?_)
  · ((iterate 5 refine so_1 rfl ?_))
    refine so_if 13 rfl (fun h2 => ?_) (fun h2 => ?_)
    · ((iterate 12 refine so_1 rfl ?_); refine so_nil ?_; refine sn_then ?_; refine sw_ret ?_)
      refine sn_ret rfl (.tmp rfl .nil) (Ent.refl _) ?_
      exact ⟨congrArg Value.bool (by rw [tagC_iff.2 (by omega)]), rfl⟩
    · ((iterate 4 refine so_1 rfl ?_))
      refine so_if 17 rfl (fun h3 => ?_) (fun h3 => ?_)
      · ((iterate 8 refine so_1 rfl ?_); refine so_nil ?_; refine sn_then ?_; refine sw_ret ?_)
        refine sn_ret rfl (.tmp rfl .nil) (Ent.refl _) ?_
        exact ⟨congrArg Value.bool (by rw [tagC_iff.2 (by omega)]), rfl⟩
      ((iterate 4 refine so_1 rfl ?_))
      refine so_if 21 rfl (fun h4 => ?_) (fun h4 => ?_)
      · ((iterate 4 refine so_1 rfl ?_); refine so_nil ?_; refine sn_then ?_; refine sw_ret ?_)
        refine sn_ret rfl (.tmp rfl .nil) (Ent.refl _) ?_
        exact ⟨congrArg Value.bool (by rw [tagC_iff.2 (by omega)]), rfl⟩
      · ((iterate 4 refine so_1 rfl ?_); refine so_nil ?_; refine sn_then ?_; refine sw_ret ?_)
        refine sn_ret rfl (.tmp rfl .nil) (Ent.refl _) ?_
        exact ⟨congrArg Value.bool (by simp only [tagC, h', Bool.false_or]; rw [Bool.eq_iff_iff]; simp; omega), rfl⟩
  · ((iterate 9 refine so_1 rfl ?_))
    refine so_if 17 rfl (fun h3 => ?_) (fun h3 => ?_)
    · ((iterate 8 refine so_1 rfl ?_); refine so_nil ?_; refine sn_then ?_; refine sw_ret ?_)
      refine sn_ret rfl (.tmp rfl .nil) (Ent.refl _) ?_
      exact ⟨congrArg Value.bool (by rw [tagC_iff.2 (by omega)]), rfl⟩
    ((iterate 4 refine so_1 rfl ?_))
    refine so_if 21 rfl (fun h4 => ?_) (fun h4 => ?_)
    · ((iterate 4 refine so_1 rfl ?_); refine so_nil ?_; refine sn_then ?_; refine sw_ret ?_)
      refine sn_ret rfl (.tmp rfl .nil) (Ent.refl _) ?_
      exact ⟨congrArg Value.bool (by rw [tagC_iff.2 (by omega)]), rfl⟩
    · ((iterate 4 refine so_1 rfl ?_); refine so_nil ?_; refine sn_then ?_; refine sw_ret ?_)
      refine sn_ret rfl (.tmp rfl .nil) (Ent.refl _) ?_
      exact ⟨congrArg Value.bool (by simp only [tagC, h', Bool.false_or]; rw [Bool.eq_iff_iff]; simp; omega), rfl⟩
theorem nall1_S {c : Int} {gs g1 g3 : Nat} : SC Tryz.prog n_name_all_1 [.int .i32 c, .pointer (some ⟨g1, 0, none⟩), .pointer (some ⟨g3, 0, none⟩)] b (pAll gs g1 g3 ++ F) (fun v F' => v = (if tagC c = true then .pointer (some ⟨gs, 0, none⟩) else .pointer none) ∧ F' = pAll gs g1 g3 ++ F) := by
  refine enterS F_name_all_1 rfl rfl rfl ?_
  (refine sw_seq ?_; refine sw_region ?_; refine so_1 rfl ?_; refine so_nil ?_; refine sn_then ?_; (iterate 2 refine sw_seq ?_); refine sw_region ?_; refine so_l 1 rfl rfl rfl ?_; refine so_1 rfl ?_)
  refine so_callE rfl rfl rfl (nltag_S) ?_
  (refine so_nil ?_; refine sn_then ?_)
  by_cases h : tagC c = true
  · rw [h]
    (refine sw_cond_t rfl ?_; refine sw_seq ?_; refine sw_region ?_; refine so_l 2 rfl rfl rfl ?_; refine so_1 rfl ?_; refine so_nil ?_; refine sn_then ?_; refine sw_ret ?_; refine sn_then_ret ?_)
    refine sn_ret rfl (.tmp rfl .nil) (Ent.refl _) ?_
    exact ⟨rfl, rfl⟩
  · have h' : tagC c = false := by simpa using h
    rw [h']
    (refine sw_cond_f rfl ?_; refine sw_skip ?_; refine sn_then ?_; refine sw_seq ?_; refine sw_region ?_; refine so_1 rfl ?_; refine so_nil ?_; refine sn_then ?_; refine sw_ret ?_)
    refine sn_ret rfl (.tmp rfl .nil) (Ent.refl _) ?_
    exact ⟨rfl, rfl⟩
theorem nall_S : SC Tryz.prog n_name_all [tagFn] b F (fun v F' => ∃ gs g1 g3, v = .pointer (some ⟨gs, 0, none⟩) ∧ F' = pAll gs g1 g3 ++ F) := by
  refine enterS F_name_all rfl rfl rfl ?_
  (refine sw_seq ?_; refine sw_region ?_)
  refine so_box rfl rfl rfl rfl rfl fun g1 => ?_
  (refine so_1 rfl ?_; refine so_nil ?_; refine sn_then ?_; refine sw_seq ?_; refine sw_region ?_)
  refine so_new rfl rfl rfl rfl rfl fun g3 => ?_
  (refine so_nil ?_; refine sn_then ?_; refine sw_seq ?_; refine sw_region ?_; (iterate 2 refine so_1 rfl ?_))
  refine so_box rfl rfl rfl rfl rfl fun gs => ?_
  (refine so_s1 1 rfl rfl rfl rfl ?_; refine so_nil ?_; refine sn_then ?_; refine sw_seq ?_; refine sw_region ?_; refine so_l 1 rfl rfl rfl ?_; refine so_1 rfl ?_; refine so_nil ?_; refine sn_then ?_; refine sw_ret ?_)
  refine sn_ret rfl (.tmp rfl .nil) (ent_keep 3 [0, 2, 1] rfl rfl) ?_
  exact ⟨gs, g1, g3, rfl, rfl⟩
theorem nTag1_S {c : Int} : SC Tryz.prog n_name_Tag_1 [.int .i32 c] b F (fun v F' => (tOk 0 c = true ∧ ∃ gs g1 g3, v = .pointer (some ⟨gs, 0, none⟩) ∧ F' = pAll gs g1 g3 ++ F) ∨ (tOk 0 c = false ∧ v = .pointer none ∧ F' = F)) := by
  refine enterS F_name_Tag_1 rfl rfl rfl ?_
  (refine sw_seq ?_; refine sw_region ?_; refine so_1 rfl ?_; refine so_nil ?_; refine sn_then ?_; (iterate 2 refine sw_seq ?_); refine sw_region ?_; (iterate 3 refine so_1 rfl ?_))
  by_cases h1 : c = 46
  · refine so_know 5 (.bool false) rfl (by simp [h1]) ?_
    ((iterate 7 refine so_1 rfl ?_); refine so_nil ?_; refine sn_then ?_; refine sw_cond_f rfl ?_; refine sw_skip ?_; refine sn_then ?_; refine sw_seq ?_; refine sw_region ?_; refine so_1 rfl ?_; refine so_nil ?_; refine sn_then ?_; refine sw_ret ?_)
    refine sn_ret rfl (.tmp rfl .nil) (Ent.refl _) ?_
    exact .inr ⟨by subst h1; rfl, rfl, rfl⟩
  refine so_know 5 (.bool true) rfl (by simp [h1]) ?_
  ((iterate 4 refine so_1 rfl ?_))
  by_cases h2 : c = 45
  · refine so_know 9 (.bool false) rfl (by simp [h2]) ?_
    ((iterate 3 refine so_1 rfl ?_); refine so_nil ?_; refine sn_then ?_; refine sw_cond_f rfl ?_; refine sw_skip ?_; refine sn_then ?_; refine sw_seq ?_; refine sw_region ?_; refine so_1 rfl ?_; refine so_nil ?_; refine sn_then ?_; refine sw_ret ?_)
    refine sn_ret rfl (.tmp rfl .nil) (Ent.refl _) ?_
    exact .inr ⟨by subst h2; rfl, rfl, rfl⟩
  refine so_know 9 (.bool true) rfl (by simp [h2]) ?_
  (refine so_1 rfl ?_)
  refine so_callE rfl rfl rfl (nltag_S) ?_
  (refine so_1 rfl ?_; refine so_nil ?_; refine sn_then ?_)
  have ht : tOk 0 c = tagC c := by simp [tOk, h1, h2]
  rw [ht]
  by_cases h3 : tagC c = true
  · rw [h3]
    (refine sw_cond_t rfl ?_; refine sw_seq ?_; refine sw_region ?_)
    refine so_call rfl rfl rfl (nall_S) ?_
    rintro _ _ ⟨gs, g1, g3, rfl, rfl⟩
    (refine so_1 rfl ?_; refine so_nil ?_; refine sn_then ?_; refine sw_ret ?_; refine sn_then_ret ?_)
    refine sn_ret rfl (.tmp rfl .nil) (Ent.refl _) ?_
    exact .inl ⟨rfl, gs, g1, g3, rfl, rfl⟩
  · have h' : tagC c = false := by simpa using h3
    rw [h']
    (refine sw_cond_f rfl ?_; refine sw_skip ?_; refine sn_then ?_; refine sw_seq ?_; refine sw_region ?_; refine so_1 rfl ?_; refine so_nil ?_; refine sn_then ?_; refine sw_ret ?_)
    refine sn_ret rfl (.tmp rfl .nil) (Ent.refl _) ?_
    exact .inr ⟨rfl, rfl, rfl⟩
def tagSt (g : Nat) (F : List SP) : Option (Nat × Nat × Nat) → List SP
  | none => pt g t_name_state [.func (.func n_name_Tag_1) ⟨[]⟩ ⟨[]⟩, .bool false] :: F
  | some x => pAll x.1 x.2.1 x.2.2 ++ F
def tagPt (g : Nat) : Option (Nat × Nat × Nat) → Nat
  | none => g
  | some x => x.1
end
end Go.Proofs.YtaglpaoipdmboaaGreat
/- What is a tag: Tag. Conditions: none. -/
namespace Go.Proofs.YtaglpaoipdmboaaGreat
open Go Go.Eng

section
variable {b : World} {F : List SP}
set_option maxHeartbeats 1000000 in
theorem nrunT_S {s : ByteArray} {g : Nat} (hl : ¬ 64 < (strI s).length) : SC Tryz.prog n_name_run [.string s, .pointer (some ⟨g, 0, none⟩), .int .i64 7] b (tagSt g F none) (fun v F' => v = ftV (tagF (strI s)) ∧ F' = F) := by
  have hsz := strI_length s
  refine enterS F_name_run rfl rfl rfl ?_
  (refine sw_seq ?_; refine sw_region ?_)
  refine so_new rfl rfl rfl rfl rfl fun g6 => ?_
  (refine so_nil ?_; refine sn_then ?_; (iterate 2 refine sw_seq ?_); refine sw_region ?_; refine so_1 rfl ?_)
  refine so_rangeS rfl rfl rfl rfl rfl rfl fun gi => ?_
  (refine so_nil ?_; refine sn_then ?_; refine sw_block ?_)
  refine sw_loop (S := Nat × Option (Nat × Nat × Nat)) (fun s' => [(0, .string s), (1, .pointer (some ⟨tagPt g s'.2, 0, none⟩)), (2, .int .i64 7), (6, .pointer (some ⟨g6, 0, none⟩)), (10, .pointer (some ⟨gi, 0, none⟩))]) (fun s' => ob gi (.stringIter s s'.1) :: pt g6 t_api_Fault [.int .i64 0, .int .i64 0] :: tagSt g F s'.2)
    (fun s' => s'.1 ≤ s.size ∧ tGood (strI s) s'.1 ∧ (s'.2 = none ↔ s'.1 = 0)) (fun s' => s.size - s'.1) (0, none) ⟨rfl, rfl, rfl, rfl, rfl, trivial⟩ (Ent.refl _) ⟨Nat.zero_le _, fun k hk => absurd hk (Nat.not_lt_zero k), ⟨fun _ => rfl, fun _ => rfl⟩⟩ ?_
  rintro ⟨p, st⟩ ⟨hp, hgood, hst⟩
  dsimp only at hp hgood hst ⊢
  (refine sw_seq ?_; refine sw_region ?_)
  by_cases hlt : p < s.size
  · have hpl : p < (strI s).length := by omega
    refine so_nextS 0 rfl rfl rfl rfl rfl hlt rfl ?_
    cases st with
    | none =>
      have hp0 : p = 0 := hst.1 rfl
      have htok := rune_tok (i := 0) hlt hpl
      have hone := rune_tone (i := 0) hlt hpl
      (refine so_1 rfl ?_; refine so_nil ?_; refine sn_then ?_; refine sw_seq ?_; refine sw_cond_t rfl ?_; refine sw_skip ?_; refine sn_then ?_; refine sw_block ?_; refine sw_seq ?_; refine sw_region ?_; (iterate 4 refine so_1 rfl ?_); refine so_nil ?_; refine sn_then ?_; refine sw_seq ?_; refine sw_region ?_; (iterate 3 refine so_1 rfl ?_); refine so_l 2 rfl rfl rfl ?_; refine so_1 rfl ?_)
      refine so_call rfl rfl rfl (nTag1_S) ?_
      rintro v F' h
      rcases h with ⟨h1, gs, g1, g3, rfl, rfl⟩ | ⟨h1, rfl, rfl⟩
      · rw [htok] at h1
        have h2 := hone h1
        have hg := hgood.step hpl ((congrArg (fun i => tOk i (strI s)[p]) hp0).trans h1)
        (refine so_1 rfl ?_; refine so_nil ?_; refine sn_then ?_; refine sw_seq ?_; refine sw_region ?_; (iterate 2 refine so_1 rfl ?_); refine so_nil ?_; refine sn_then ?_; refine sw_cond_f rfl ?_; refine sw_skip ?_; refine sn_block ?_)
        refine sn_round (p + 1, some (gs, g1, g3)) ⟨rfl, rfl, rfl, rfl, rfl, trivial⟩ ?_ ⟨hlt, hg, ⟨(fun h => by cases h), (fun h => by cases h)⟩⟩ (by dsimp only; omega)
        rw [h2]
        exact ent_keep 6 [3, 4, 0, 1, 2] rfl rfl
      · rw [htok] at h1
        (refine so_1 rfl ?_; refine so_nil ?_; refine sn_then ?_; refine sw_seq ?_; refine sw_region ?_; (iterate 2 refine so_1 rfl ?_); refine so_nil ?_; refine sn_then ?_; refine sw_cond_t rfl ?_; refine sw_seq ?_; refine sw_region ?_; (iterate 3 refine so_1 rfl ?_); refine so_s1 1 rfl rfl rfl rfl ?_; refine so_nil ?_; refine sn_then ?_; refine sw_ret ?_; refine sn_block_ret ?_; refine sn_loop_ret ?_; refine sn_block_ret ?_; refine sn_then_ret ?_)
        refine sn_ret rfl (.agg 1 rfl rfl rfl rfl rfl .nil) (ent_keep 3 [] rfl rfl) ?_
        exact ⟨by rw [tagF_bad hl hpl hgood ((congrArg (fun i => tOk i (strI s)[p]) hp0).trans h1)]; rfl, rfl⟩
    | some x =>
      obtain ⟨gs, g1, g3⟩ := x
      have hp0 : p ≠ 0 := fun e => by have := hst.2 e; cases this
      have htok := rune_tok (i := p) hlt hpl
      have hone := rune_tone (i := p) hlt hpl
      have htc : ∀ c, tOk p c = tagC c := fun c => by simp [tOk, hp0]
      (refine so_1 rfl ?_; refine so_nil ?_; refine sn_then ?_; refine sw_seq ?_; refine sw_cond_t rfl ?_; refine sw_skip ?_; refine sn_then ?_; refine sw_block ?_; refine sw_seq ?_; refine sw_region ?_; (iterate 4 refine so_1 rfl ?_); refine so_nil ?_; refine sn_then ?_; refine sw_seq ?_; refine sw_region ?_; (iterate 3 refine so_1 rfl ?_); refine so_l 2 rfl rfl rfl ?_; refine so_1 rfl ?_)
      refine so_callE rfl rfl rfl ((nall1_S (gs := gs)).at (ent_keep 5 [2, 3, 4, 0, 1] rfl rfl) (ent_keep 5 [3, 4, 0, 1, 2] rfl rfl)) ?_
      (refine so_1 rfl ?_; refine so_nil ?_; refine sn_then ?_; refine sw_seq ?_; refine sw_region ?_; refine so_1 rfl ?_)
      rw [← htc, htok]
      by_cases h1 : tOk p (strI s)[p] = true
      · have h2 := hone h1
        rw [if_pos h1]
        (refine so_1 rfl ?_; refine so_nil ?_; refine sn_then ?_; refine sw_cond_f rfl ?_; refine sw_skip ?_; refine sn_block ?_)
        refine sn_round (p + 1, some (gs, g1, g3)) ⟨rfl, rfl, rfl, rfl, rfl, trivial⟩ ?_ ⟨hlt, hgood.step hpl h1, ⟨(fun h => by cases h), (fun h => by cases h)⟩⟩ (by dsimp only; omega)
        rw [h2]
        exact Ent.refl _
      · rw [if_neg h1]
        (refine so_1 rfl ?_; refine so_nil ?_; refine sn_then ?_; refine sw_cond_t rfl ?_; refine sw_seq ?_; refine sw_region ?_; (iterate 3 refine so_1 rfl ?_); refine so_s1 1 rfl rfl rfl rfl ?_; refine so_nil ?_; refine sn_then ?_; refine sw_ret ?_; refine sn_block_ret ?_; refine sn_loop_ret ?_; refine sn_block_ret ?_; refine sn_then_ret ?_)
        refine sn_ret rfl (.agg 1 rfl rfl rfl rfl rfl .nil) (ent_keep 5 [] rfl rfl) ?_
        exact ⟨by rw [tagF_bad hl hpl hgood (by simpa using h1)]; rfl, rfl⟩
  · refine so_nextSE 0 rfl rfl rfl rfl rfl (by omega) ?_
    have he := tagF_end hl (by
      have : p = (strI s).length := by omega
      rw [this] at hgood; exact hgood)
    cases st with
    | none =>
      have hp0 : p = 0 := hst.1 rfl
      rw [if_pos (by omega)] at he
      (refine so_1 rfl ?_; refine so_nil ?_; refine sn_then ?_; refine sw_seq ?_; refine sw_cond_f rfl ?_; refine sw_exit ?_; refine sn_then_exit ?_; refine sn_loop_exit ?_; refine sn_block_exit ?_; refine sn_then ?_; (iterate 2 refine sw_seq ?_); refine sw_region ?_; (iterate 3 refine so_1 rfl ?_); refine so_l 2 rfl rfl rfl ?_; refine so_1 rfl ?_; refine so_nil ?_; refine sn_then ?_; refine sw_cond_t rfl ?_; refine sw_seq ?_; refine sw_region ?_; (iterate 4 refine so_1 rfl ?_); refine so_s1 1 rfl rfl rfl rfl ?_; refine so_nil ?_; refine sn_then ?_; refine sw_ret ?_; refine sn_then_ret ?_)
      refine sn_ret rfl (.agg 1 rfl rfl rfl rfl rfl .nil) (ent_keep 3 [] rfl rfl) ?_
      exact ⟨by rw [he, show s.size = 0 by omega]; rfl, rfl⟩
    | some x =>
      have hp0 : p ≠ 0 := fun e => by have := hst.2 e; cases this
      rw [if_neg (by omega)] at he
      (refine so_1 rfl ?_; refine so_nil ?_; refine sn_then ?_; refine sw_seq ?_; refine sw_cond_f rfl ?_; refine sw_exit ?_; refine sn_then_exit ?_; refine sn_loop_exit ?_; refine sn_block_exit ?_; refine sn_then ?_; (iterate 2 refine sw_seq ?_); refine sw_region ?_; (iterate 3 refine so_1 rfl ?_); refine so_l 2 rfl rfl rfl ?_; refine so_1 rfl ?_; refine so_nil ?_; refine sn_then ?_; refine sw_cond_f rfl ?_; refine sw_skip ?_; refine sn_then ?_; refine sw_seq ?_; refine sw_region ?_; refine so_1 rfl ?_; refine so_s1 1 rfl rfl rfl rfl ?_; refine so_nil ?_; refine sn_then ?_; refine sw_ret ?_)
      refine sn_ret rfl (.agg 1 rfl rfl rfl rfl rfl .nil) (ent_keep 5 [] rfl rfl) ?_
      exact ⟨by rw [he]; rfl, rfl⟩
theorem Tag_S {s : ByteArray} : SC Tryz.prog n_name_Tag [.string s] b F (fun v F' => v = ftV (tagF (strI s)) ∧ F' = F) := by
  have hsz := strI_length s
  refine enterS F_name_Tag rfl rfl rfl ?_
  (refine sw_seq ?_; refine sw_region ?_)
  refine so_new rfl rfl rfl rfl rfl fun g2 => ?_
  (refine so_nil ?_; refine sn_then ?_; (iterate 2 refine sw_seq ?_); refine sw_region ?_; refine so_1 rfl ?_)
  refine so_call rfl rfl rfl (nlong_S) ?_
  rintro v F' ⟨hv, rfl⟩
  by_cases h : (64 : Int) < s.size
  · rw [if_pos h] at hv
    subst hv
    ((iterate 3 refine so_1 rfl ?_))
    refine so_new rfl rfl rfl rfl rfl fun g3 => ?_
    (refine so_s1 0 rfl rfl rfl rfl ?_; refine so_1 rfl ?_; refine so_nil ?_; refine sn_then ?_; refine sw_seq ?_; refine sw_region ?_; refine so_1 rfl ?_; refine so_nil ?_; refine sn_then ?_; refine sw_cond_t rfl ?_; refine sw_seq ?_; refine sw_region ?_; refine so_l 0 rfl rfl rfl ?_; refine so_s1 1 rfl rfl rfl rfl ?_; refine so_nil ?_; refine sn_then ?_; refine sw_ret ?_; refine sn_then_ret ?_)
    refine sn_ret rfl (.agg 1 rfl rfl rfl rfl rfl .nil) (ent_keep 2 [] rfl rfl) ?_
    exact ⟨by rw [tagF_long (by omega)]; rfl, rfl⟩
  · rw [if_neg h] at hv
    subst hv
    ((iterate 3 refine so_1 rfl ?_))
    refine so_new rfl rfl rfl rfl rfl fun g3 => ?_
    (refine so_s1 0 rfl rfl rfl rfl ?_; refine so_1 rfl ?_; refine so_nil ?_; refine sn_then ?_; refine sw_seq ?_; refine sw_region ?_; refine so_1 rfl ?_; refine so_nil ?_; refine sn_then ?_; refine sw_cond_f rfl ?_; refine sw_skip ?_; refine sn_then ?_; refine sw_seq ?_; refine sw_region ?_; refine so_1 rfl ?_; refine so_nil ?_; refine sn_then ?_; refine sw_seq ?_; refine sw_region ?_; (iterate 3 refine so_1 rfl ?_))
    refine so_box rfl rfl rfl rfl rfl fun g => ?_
    skip
    refine so_call rfl rfl rfl (nrunT_S (by omega)) ?_
    rintro v F' ⟨rfl, rfl⟩
    (refine so_s1 1 rfl rfl rfl rfl ?_; refine so_nil ?_; refine sn_then ?_; refine sw_ret ?_)
    refine sn_ret rfl (.agg 1 rfl rfl rfl rfl rfl .nil) (ent_keep 2 [] rfl rfl) ?_
    exact ⟨rfl, rfl⟩
end
end Go.Proofs.YtaglpaoipdmboaaGreat
