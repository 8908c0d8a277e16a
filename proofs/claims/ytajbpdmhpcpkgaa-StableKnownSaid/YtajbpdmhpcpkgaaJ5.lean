/- Queues, part one: dots as keys of maps; how what is held lies in memory. Conditions: none. -/
import Derived.Test.YtajbpdmhpcpkgaaJ4
import Derived.Test.YtajbpdmhpcpkgaaJ3
import Derived.Test.YtajbpdmhpcpkgaaJ2
namespace Go.Proofs.Ytajbpdmhpcpkgaa
open Go.Eng Go.RowKit Go.WideMaps

theorem dotU : Try.prog.underlying t_api_Dot = some (.struct ⟨[⟨ "R", t_int, 0, false, "", "", 0⟩, ⟨ "N", t_int, 1, false, "", "", 8⟩]⟩) := by kernel_rfl
theorem dotMK : MK Try.prog t_api_Dot (fun p : Int × Int => dotV p.1 p.2) (fun p => (Lit.int .i64 p.1).wf = true ∧ (Lit.int .i64 p.2).wf = true) where
  law := deep_law (m := 2) (by omega) (by kernel_rfl) (by kernel_rfl) (by rw [dotU])
  of := fun p hp => by
    have hkt : Try.prog.keyType t_api_Dot = true := by kernel_rfl
    have hsz : Try.prog.cellsOf t_api_Dot = 2 := by kernel_rfl
    have hci : Try.prog.cellsOf t_int = 1 := by kernel_rfl
    have hui : Try.prog.underlying t_int = some (.int .i64) := by kernel_rfl
    obtain ⟨m, hm⟩ : ∃ m, Try.prog.types.size = m + 1 := ⟨_, (by kernel_rfl : Try.prog.types.size = (Try.prog.types.size - 1) + 1)⟩
    unfold keyOf
    simp only [dotU]
    rw [if_pos (by simp [hkt, Value.formed, dotU, hsz, dotV]), hm]
    unfold Program.keyLits
    simp only [dotU, Value.cells, dotV]
    rw [if_pos (by simp [hsz])]
    simp [hci, Program.keyLits, hui, hp.1, hp.2]
  inj := fun a c _ _ h => by
    simp only [dotV, Value.agg.injEq, Array.mk.injEq, List.cons.injEq, Value.int.injEq, true_and, and_true] at h
    exact Prod.ext h.1 h.2

/-- An event; what is held. -/
structure Ev where
  r : Int
  n : Int
  dv : Value
  deps : List Int
  kind : Int
  repo : ByteArray
  tag : ByteArray
  id : List Int
  rv : Value
  refs : List (List Int)
structure Wn where
  g : Nat
  e : Ev
  src : Int
def evC (e : Ev) : List Value := .int .i64 e.r :: .int .i64 e.n :: e.dv :: .int .i64 e.kind :: .string e.repo :: .string e.tag :: (u8s e.id ++ [e.rv])
abbrev evV (e : Ev) : Value := .agg ⟨evC e⟩
def wsC (e : Ev) (src : Int) : List Value := evC e ++ [.int .i64 src]
abbrev waC (w : Wn) : List Value := wsC w.e w.src
abbrev ints (l : List Int) : List Value := l.map (Value.int .i64)
abbrev rZ (v : Value) (l : List Int) : SP := row t_int 1 v l.length (ints l)
abbrev rD (v : Value) (l : List (List Int)) : SP := row t_api_ID 32 v l.length (idsC l)
abbrev dotOk (p : Int × Int) : Prop := (Lit.int .i64 p.1).wf = true ∧ (Lit.int .i64 p.2).wf = true
abbrev dotP (p : Int × Int) : Value := dotV p.1 p.2
section
variable {b : World} {F : List SP} {gq gm : Nat} {v h : Value} {V : List Int} {R H : List Wn}
end
end Go.Proofs.Ytajbpdmhpcpkgaa
/- Queues, part two: copies; numbers; what fits. Conditions: not too many. -/
namespace Go.Proofs.Ytajbpdmhpcpkgaa
open Go.Eng Go.RowKit Go.WideMaps

theorem vlZ {b : World} {F : List SP} {v : Value} {l : List Int} {k : Nat} (hk : nth F k = some (rZ v l)) : ∀ w, Sat b F w → VL (Value.int .i64) w v l := fun w H => by
  have := (H.oat hk).sl
  exact this
section
variable {b : World} {F : List SP} {va : Value}
theorem Clone_ints {xs : List Int} (ha : ∀ w, Sat b F w → VL (Value.int .i64) w va xs) (hn : xs.length ≤ 1000000) : SC Try.prog n_slices_Clone_sl_int_int [va] b F (fun v F' => F' = rZ v xs :: F) := by
  refine enterS F_slices_Clone_sl_int_int rfl rfl rfl ?_
  refine sw_fact (fun w H => (ha w H).form) ?_
  rintro ⟨A, c, rfl, h1, h2, h3, h4⟩
  cases A with
  | none =>
    have hc := h3 rfl
    have hx : xs = [] := List.length_eq_zero_iff.1 (by omega)
    subst hx
    (refine sw_seq ?_; refine sw_region ?_; refine so_1 rfl ?_; refine so_nil ?_; refine sn_then ?_; (iterate 2 refine sw_seq ?_); refine sw_region ?_; (iterate 2 refine so_1 rfl ?_); refine so_nil ?_; refine sn_then ?_; refine sw_cond_t rfl ?_; refine sw_seq ?_; refine sw_region ?_; refine so_1 rfl ?_; refine so_nil ?_; refine sn_then ?_; refine sw_ret ?_; refine sn_then_ret ?_)
    refine sn_ret rfl (.tmp rfl .nil) (ent_row_nil t_int 1 rfl) ?_
    rfl
  | some a =>
    (refine sw_seq ?_; refine sw_region ?_; refine so_1 rfl ?_; refine so_nil ?_; refine sn_then ?_; (iterate 2 refine sw_seq ?_); refine sw_region ?_; (iterate 2 refine so_1 rfl ?_); refine so_nil ?_; refine sn_then ?_; refine sw_cond_f rfl ?_; refine sw_skip ?_; refine sn_then ?_; refine sw_seq ?_; refine sw_region ?_)
    refine so_lit [] rfl rfl rfl rfl rfl rfl rfl rfl rfl fun g0 => ?_
    refine so_ent (ent_blk_row (n := 0) (sz := 1) rfl rfl (by decide) 0 rfl rfl) ?_
    (refine so_1 rfl ?_)
    refine so_append 0 rfl rfl rfl rfl rfl rfl rfl rfl rfl (up ha (ent_keep 1 [] rfl rfl)) ints_one (by omega) (fun _ => rfl) fun v6 => ?_
    (refine so_1 rfl ?_; refine so_nil ?_; refine sn_then ?_; refine sw_ret ?_)
    refine sn_ret rfl (.tmp rfl .nil) (Ent.refl _) ?_
    show row t_int 1 v6 _ _ :: F = rZ v6 xs :: F
    simp [rZ, ints]
def numOk (V : List Int) : Prop := ∀ x ∈ V, 0 ≤ x ∧ x ≤ 1048576
instance (V : List Int) : Decidable (numOk V) := by unfold numOk; infer_instance
end
end Go.Proofs.Ytajbpdmhpcpkgaa
/- Queues, part three: copies of digests and of pointers; an event of its own. Conditions: not too many. -/
namespace Go.Proofs.Ytajbpdmhpcpkgaa
open Go.Eng Go.RowKit Go.WideMaps

theorem evC_len {e : Ev} (h : e.id.length = 32) : (evC e).length = 39 := by simp [evC, h]
theorem evC_rv {e : Ev} (h : e.id.length = 32) : nth (evC e) 38 = some e.rv := by
  rw [nth_eq]; simp only [evC, List.getElem?_cons_succ]
  rw [List.getElem?_append_right (by simp [h]), u8s_len, h]; rfl
theorem set_at {α : Type} (a : List α) (x y : α) (m : List α) : (a ++ x :: m).set a.length y = a ++ y :: m := by
  induction a with
  | nil => rfl
  | cons c a ih => simp only [List.cons_append, List.length_cons, List.set_cons_succ, ih]
theorem evC_one {e : Ev} (h1 : e.dv.oneCell' = true) (h2 : e.rv.oneCell' = true) : ∀ u ∈ evC e, u.oneCell' = true := by
  intro u hu
  simp only [evC, List.mem_cons, List.mem_append, List.not_mem_nil, or_false] at hu
  rcases hu with rfl | rfl | rfl | rfl | rfl | rfl | hu | rfl <;> first | rfl | assumption | exact u8s_one _ u hu
theorem sl_form {w : World} {sz n : Nat} {v : Value} {cs : List Value} (h : SL w sz v n cs) : ∃ A c, v = .slice A n c ∧ n ≤ c ∧ c ≤ 9223372036854775807 ∧ (A = none → c = 0) ∧ (0 < n → ∃ bk off, A = some ⟨bk, off, none⟩) ∧ cs.length = n * sz := by
  obtain ⟨A, c, h1, h2, h3, h4, h5, h6⟩ := h
  exact ⟨A, c, h1, h3, h4, h5, fun hp => by obtain ⟨bk, off, hA, _⟩ := h6 hp; exact ⟨bk, off, hA⟩, h2⟩
theorem idsC_one (l : List (List Int)) : ∀ u ∈ idsC l, u.oneCell' = true := by
  induction l with
  | nil => intro u hu; simp [idsC] at hu
  | cons a l ih =>
    intro u hu
    rcases List.mem_append.1 hu with hu | hu
    · exact u8s_one _ u hu
    · exact ih u hu
section
variable {b : World} {F : List SP} {va : Value}
theorem Clone_ids {l : List (List Int)} (ha : ∀ w, Sat b F w → SL w 32 va l.length (idsC l)) (hn : l.length ≤ 1000000) : SC Try.prog n_slices_Clone_sl_api_ID_api_ID [va] b F (fun v F' => F' = rD v l :: F) := by
  refine enterS F_slices_Clone_sl_api_ID_api_ID rfl rfl rfl ?_
  refine sw_fact (fun w H => sl_form (ha w H)) ?_
  rintro ⟨A, c, rfl, h1, h2, h3, h4, _⟩
  cases A with
  | none =>
    have hc := h3 rfl
    have hx : l = [] := List.length_eq_zero_iff.1 (by omega)
    subst hx
    (refine sw_seq ?_; refine sw_region ?_; refine so_1 rfl ?_; refine so_nil ?_; refine sn_then ?_; (iterate 2 refine sw_seq ?_); refine sw_region ?_; (iterate 2 refine so_1 rfl ?_); refine so_nil ?_; refine sn_then ?_; refine sw_cond_t rfl ?_; refine sw_seq ?_; refine sw_region ?_; refine so_1 rfl ?_; refine so_nil ?_; refine sn_then ?_; refine sw_ret ?_; refine sn_then_ret ?_)
    refine sn_ret rfl (.tmp rfl .nil) (ent_row_nil t_api_ID 32 rfl) ?_
    rfl
  | some a =>
    (refine sw_seq ?_; refine sw_region ?_; refine so_1 rfl ?_; refine so_nil ?_; refine sn_then ?_; (iterate 2 refine sw_seq ?_); refine sw_region ?_; (iterate 2 refine so_1 rfl ?_); refine so_nil ?_; refine sn_then ?_; refine sw_cond_f rfl ?_; refine sw_skip ?_; refine sn_then ?_; refine sw_seq ?_; refine sw_region ?_)
    refine so_lit0 rfl rfl rfl rfl rfl fun g0 => ?_
    refine so_ent (ent_blk_row (n := 0) (sz := 32) rfl rfl (by decide) 0 rfl rfl) ?_
    (refine so_1 rfl ?_)
    refine so_append 0 rfl rfl rfl rfl rfl rfl rfl rfl rfl (up ha (ent_keep 1 [] rfl rfl)) (idsC_one l) (by omega) (fun _ => rfl) fun v6 => ?_
    (refine so_1 rfl ?_; refine so_nil ?_; refine sn_then ?_; refine sw_ret ?_)
    refine sn_ret rfl (.tmp rfl .nil) (Ent.refl _) ?_
    show row t_api_ID 32 v6 _ _ :: F = rD v6 l :: F
    simp [rD]
end
end Go.Proofs.Ytajbpdmhpcpkgaa
/- Queues, part four: an event of its own; which event stands ahead. Conditions: not too many. -/
namespace Go.Proofs.Ytajbpdmhpcpkgaa
open Go.Eng Go.RowKit Go.WideMaps

/-- The same, with rows of its own. -/
def Ev.own (e : Ev) (dv rv : Value) : Ev := { e with dv := dv, rv := rv }
section
variable {b : World} {F : List SP}
end
end Go.Proofs.Ytajbpdmhpcpkgaa
/- The heap over any kind of element: the plain law of container/heap (printed by heapgen.py). Conditions: 'HLaw': the order is one. -/
namespace Go.Heap

class HOrd (α : Type) where
  lt : α → α → Bool
  d : α
class HLaw (α : Type) [HOrd α] : Prop where
  asym : ∀ x y : α, HOrd.lt x y = true → ¬ HOrd.lt y x = true
  trans : ∀ x y z : α, ¬ HOrd.lt y x = true → ¬ HOrd.lt z y = true → ¬ HOrd.lt z x = true
end Go.Heap
/- Queues, part five: which event stands ahead; what is held, read; the heap's methods. Conditions: not too many. -/
namespace Go.Proofs.Ytajbpdmhpcpkgaa
open Go.Eng Go.RowKit Go.WideMaps Go.Heap

abbrev ltE (a c : Ev) : Bool := lessL a.r a.n a.deps c.r c.n c.deps
instance : HOrd Wn := ⟨fun a c => ltE a.e c.e, ⟨0, ⟨0, 0, .slice none 0 0, [], 0, ⟨#[]⟩, ⟨#[]⟩, [], .slice none 0 0, []⟩, 0⟩⟩
theorem lt_Wn (a c : Wn) : HOrd.lt a c = ltE a.e c.e := rfl
instance : HLaw Wn where
  asym := fun x y h1 h2 => by
    rw [lt_Wn, ltE, lessL, decide_eq_true_eq] at h1 h2; omega
  trans := fun x y z h1 h2 h3 => by
    rw [lt_Wn, ltE, lessL, decide_eq_true_eq] at h1 h2 h3; omega
section
variable {b : World} {F : List SP} {k : Nat} {H : List Wn} {e : Wn}
end
section
variable {b : World} {F : List SP}
variable {A : Option Addr} {c n : Nat} {R H : List Wn}
end
end Go.Proofs.Ytajbpdmhpcpkgaa
/- Queues, part six: the heap's methods: Swap, Push, Pop. Conditions: not too many. -/
namespace Go.Proofs.Ytajbpdmhpcpkgaa
open Go.Eng Go.RowKit Go.WideMaps Go.Heap

section
variable {b : World} {F : List SP} {A : Option Addr} {c n : Nat} {R H : List Wn}
end
end Go.Proofs.Ytajbpdmhpcpkgaa
/- Queues, part seven: the heap's methods: Push, Pop. Conditions: not too many. -/
namespace Go.Proofs.Ytajbpdmhpcpkgaa
open Go.Eng Go.RowKit Go.WideMaps Go.Heap

/-- A block in which a slice's header lies. -/
structure HC (cs : Value → List Value) (off : Nat) : Prop where
  rd : ∀ v, nth (cs v) off = some v
  wr : ∀ u v, stO (cs u) off v = some (cs v)
section
variable {b : World} {F : List SP} {A : Option Addr} {c n gh t0 off : Nat} {R : List Wn} {cs : Value → List Value} {x : Wn}
end
end Go.Proofs.Ytajbpdmhpcpkgaa
/- Queues, part eight: the heap: up, down. Conditions: not too many. -/
namespace Go.Proofs.Ytajbpdmhpcpkgaa
open Go.Eng Go.RowKit Go.WideMaps Go.Heap

section
variable {b : World} {F : List SP} {A : Option Addr} {c n gh t0 off : Nat} {l H : List Wn} {cs : Value → List Value}
end
end Go.Proofs.Ytajbpdmhpcpkgaa
/- Queues, part nine: the heap: down. Conditions: not too many. -/
namespace Go.Proofs.Ytajbpdmhpcpkgaa
open Go.Eng Go.RowKit Go.WideMaps Go.Heap

section
variable {b : World} {F : List SP} {A : Option Addr} {c n gh t0 off : Nat} {l H : List Wn} {cs : Value → List Value}
end
end Go.Proofs.Ytajbpdmhpcpkgaa
/- Queues, part ten: the heap: Push, Pop, Remove. Conditions: not too many. -/
namespace Go.Proofs.Ytajbpdmhpcpkgaa
open Go.Eng Go.RowKit Go.WideMaps Go.Heap

section
variable {b : World} {F : List SP} {A : Option Addr} {c n gh t0 off : Nat} {l H : List Wn} {cs : Value → List Value} {x : Wn}
end
end Go.Proofs.Ytajbpdmhpcpkgaa
/- Queues, part eleven: the plain law of heap.Remove. Conditions: none. -/
namespace Go.Proofs.Ytajbpdmhpcpkgaa
open Go.Heap

end Go.Proofs.Ytajbpdmhpcpkgaa
/- Queues, part twelve: all that is held, in order. Conditions: not too many. -/
namespace Go.Proofs.Ytajbpdmhpcpkgaa
open Go.Eng Go.RowKit Go.WideMaps Go.Heap

theorem hc1 : HC (fun v => [v]) 0 := ⟨fun _ => rfl, fun _ _ => rfl⟩
section
variable {b : World} {F : List SP} {R H : List Wn} {h : Value}
end
end Go.Proofs.Ytajbpdmhpcpkgaa
/- Queues, part thirteen: how a queue stands: Vector, ripe, Ripe. Conditions: not too many. -/
namespace Go.Proofs.Ytajbpdmhpcpkgaa
open Go.Eng Go.RowKit Go.WideMaps Go.Heap

section
variable {b : World} {F : List SP} {gq gm : Nat} {v h : Value} {V : List Int} {R H : List Wn} {e : Wn}
end
end Go.Proofs.Ytajbpdmhpcpkgaa
/- Queues, part fourteen: Ripe. Conditions: not too many. -/
namespace Go.Proofs.Ytajbpdmhpcpkgaa
open Go.Eng Go.RowKit Go.WideMaps Go.Heap

section
variable {b : World} {F : List SP} {gq gm : Nat} {v h : Value} {V : List Int} {R H : List Wn}
end
end Go.Proofs.Ytajbpdmhpcpkgaa
/- Events and what is held: lists of them in memory; compared, copied, written over. Conditions: not too many. -/
namespace Go.Proofs.Ytajbpdmhpcpkgaa
open Go.Eng Go.RowKit Go.WideMaps

theorem i64wf (x : Int) : (Lit.int .i64 x).wf = true ↔ I64 x := by
  have h1 : IntKind.i64.min = -9223372036854775808 := by decide
  have h2 : IntKind.i64.max = 9223372036854775807 := by decide
  simp [Lit.wf, h1, h2, I64]
def nS : Value := .slice none 0 0
def nE (e : Ev) : Ev := e.own nS nS
/-- Cells one behind the other. -/
def flC {α : Type} (f : α → List Value) : List α → List Value
  | [] => []
  | a :: l => f a ++ flC f l
section
variable {α : Type} {f : α → List Value} {l : List α} {sz : Nat}
theorem flC_app (a c : List α) : flC f (a ++ c) = flC f a ++ flC f c := by
  induction a with
  | nil => rfl
  | cons x a ih => simp only [List.cons_append, flC, ih, List.append_assoc]
theorem flC_len (h : ∀ a ∈ l, (f a).length = sz) : (flC f l).length = l.length * sz := by
  induction l with
  | nil => simp [flC]
  | cons x l ih =>
    have h1 := h x List.mem_cons_self
    have h2 := ih fun w hw => h w (List.mem_cons_of_mem _ hw)
    simp only [flC, List.length_append, h1, h2, List.length_cons, Nat.succ_mul]; omega
theorem flC_at (h : ∀ a ∈ l, (f a).length = sz) {i : Nat} (hi : i < l.length) {j : Nat} (hj : j < sz) : (flC f l)[i * sz + j]? = (f l[i])[j]? := by
  induction l generalizing i with
  | nil => simp at hi
  | cons x l ih =>
    have h1 := h x List.mem_cons_self
    cases i with
    | zero => simp only [flC, Nat.zero_mul, Nat.zero_add, List.getElem_cons_zero]; exact List.getElem?_append_left (by omega)
    | succ i =>
      simp only [flC, List.getElem_cons_succ]
      rw [List.getElem?_append_right (by rw [h1, Nat.succ_mul]; omega), h1, Nat.succ_mul, show i * sz + sz + j - sz = i * sz + j by omega]
      exact ih (fun w hw => h w (List.mem_cons_of_mem _ hw)) (by simpa using hi)
theorem flC_seg (h : ∀ a ∈ l, (f a).length = sz) {i : Nat} (hi : i < l.length) : ((flC f l).drop (i * sz)).take sz = f l[i] := by
  apply List.ext_getElem?
  intro j
  rw [List.getElem?_take, List.getElem?_drop]
  have h1 := h _ (List.getElem_mem hi)
  split
  · rename_i hj; exact flC_at h hi hj
  · rename_i hj; rw [List.getElem?_eq_none (by omega)]
theorem flC_set (h : ∀ a ∈ l, (f a).length = sz) {i : Nat} {x : α} (hx : (f x).length = sz) (hi : i < l.length) : spl (flC f l) (i * sz) (f x) = flC f (l.set i x) := by
  induction l generalizing i with
  | nil => simp at hi
  | cons y l ih =>
    have h1 := h y List.mem_cons_self
    cases i with
    | zero =>
      simp only [List.set_cons_zero, flC, spl, Nat.zero_mul, List.take_zero, List.nil_append, Nat.zero_add, hx]
      rw [List.drop_append_of_le_length (by omega), List.drop_of_length_le (by omega), List.nil_append]
    | succ i =>
      have := ih (fun w hw => h w (List.mem_cons_of_mem _ hw)) (by simpa using hi)
      simp only [List.set_cons_succ, flC, ← this, spl]
      rw [Nat.succ_mul, show i * sz + sz = (f y).length + i * sz by omega, List.take_length_add_append, show (f y).length + i * sz + (f x).length = (f y).length + (i * sz + (f x).length) by omega, List.drop_length_add_append, List.append_assoc]
theorem sl_cell {w : World} {bk off n c j : Nat} {cs : List Value} (h : SL w sz (.slice (some ⟨bk, off, none⟩) n c) n cs) (hj : j < cs.length) : w.cell? ⟨bk, off + j, none⟩ = cs[j]? := by
  obtain ⟨A, c', hv, hl, _, _, _, hc⟩ := h
  cases hv
  obtain ⟨b', o', hA, _, hcc⟩ := hc (by
    rcases Nat.eq_zero_or_pos n with h0 | h0
    · subst h0; simp at hl; subst hl; simp at hj
    · exact h0)
  cases hA
  exact hcc j hj
theorem fl_cell {w : World} {bk off c i j : Nat} (h : SL w sz (.slice (some ⟨bk, off, none⟩) l.length c) l.length (flC f l)) (hf : ∀ a ∈ l, (f a).length = sz) (hi : i < l.length) (hj : j < sz) : w.cell? ⟨bk, off + i * sz + j, none⟩ = (f l[i])[j]? := by
  rw [Nat.add_assoc, sl_cell h, flC_at hf hi hj]
  rw [flC_len hf]
  have : (i + 1) * sz ≤ l.length * sz := Nat.mul_le_mul_right _ hi
  rw [Nat.succ_mul] at this; omega
end
theorem segO_front {l : List Value} (m : List Value) {n : Nat} (h : l.length = n) : segO (l ++ m) 0 n = some l := by
  subst h
  induction l with
  | nil => cases m <;> rfl
  | cons a l ih => simp only [List.cons_append, List.length_cons, segO, ih]
theorem evC_id {e : Ev} (h : e.id.length = 32) : segO (evC e) 6 32 = some (u8s e.id) := segO_front (n := 32) _ (by rw [u8s_len, h])
theorem evC_strv {e : Ev} {v : Value} (h : e.id.length = 32) : stO (evC e) 38 v = some (evC { e with rv := v }) := by
  refine stO_ok (by rw [evC_len h]; omega) ?_
  simp only [evC, List.set_cons_succ]
  have := set_at (u8s e.id) e.rv v []
  rw [u8s_len, h] at this
  rw [this]
theorem idsC_fl (l : List (List Int)) : idsC l = flC u8s l := by
  induction l with
  | nil => rfl
  | cons x l ih => simp only [idsC, flC, ih]
abbrev wssC : List Wn → List Value := flC waC
abbrev evsC : List Ev → List Value := flC evC
def evP (e : Ev) : List SP := [rZ e.dv e.deps, rD e.rv e.refs]
def evF : List Ev → List SP
  | [] => []
  | e :: l => evP e ++ evF l
theorem evF_app (a c : List Ev) : evF (a ++ c) = evF a ++ evF c := by
  induction a with
  | nil => rfl
  | cons x a ih => simp only [List.cons_append, evF, ih, List.append_assoc]
theorem evF_snoc {a : List Ev} {x : Ev} : (evF (a ++ [x])).Perm (evP x ++ evF a) := by
  rw [evF_app]
  exact List.perm_append_comm.trans (.of_eq (by simp [evF]))
abbrev rEn (A : Option Addr) (c n : Nat) (l : List Ev) : SP := row t_api_Event 39 (.slice A n c) n (evsC l)
abbrev rEs (v : Value) (l : List Ev) : SP := row t_api_Event 39 v l.length (evsC l)
/-- An event may be read. -/
structure ER (w : World) (e : Ev) : Prop where
  dv : VL (Value.int .i64) w e.dv e.deps
  rv : SL w 32 e.rv e.refs.length (idsC e.refs)
/-- An event is one. -/
structure EW (e : Ev) : Prop where
  id : idOk e.id
  dot : dotOk (e.r, e.n)
  rf : ∀ x ∈ e.refs, idOk x
  kind : I64 e.kind
  dp : ∀ x ∈ e.deps, I64 x
  rs : e.repo.size ≤ maxLen
  ts : e.tag.size ≤ maxLen
theorem EW.l32 {e : Ev} (h : EW e) : e.id.length = 32 := h.id.1
theorem EW.r32 {e : Ev} (h : EW e) : len32 e.refs := fun x hx => (h.rf x hx).1
theorem EW.own {e : Ev} (h : EW e) (dv rv : Value) : EW (e.own dv rv) := ⟨h.id, h.dot, h.rf, h.kind, h.dp, h.rs, h.ts⟩
structure WL (w : World) (v : Value) (l : List Wn) : Prop where
  sl : SL w 40 v l.length (wssC l)
  er : ∀ m ∈ l, ER w m.e
structure EL (w : World) (v : Value) (l : List Ev) : Prop where
  sl : SL w 39 v l.length (evsC l)
  er : ∀ m ∈ l, ER w m
section
variable {b : World} {F : List SP} {e : Ev} {l : List Wn}
theorem evF_er {l : List Ev} {k : Nat} (hk : nth F k = some (all (evF l))) {m : Ev} (hm : m ∈ l) : ∀ w, Sat b F w → ER w m := fun w hS => by
  obtain ⟨l1, l2, rfl⟩ := List.append_of_mem hm
  obtain ⟨h1, hl, hA⟩ := hS.mem.get hk
  have hp : (evF (l1 ++ m :: l2)).Perm (evP m ++ evF (l1 ++ l2)) := by
    rw [evF_app, evF, evF_app, ← List.append_assoc, ← List.append_assoc]
    exact List.perm_append_comm.append_right _
  have h2 : Sat b (evP m ++ evF (l1 ++ l2)) w := ⟨hS.os, hS.tape, hS.output, (ent_perm hp _ hA).mono hl⟩
  exact ⟨vlZ (k := 0) rfl w h2, (h2.oat (k := 1) rfl).sl⟩
theorem rEs_el {l : List Ev} {v : Value} {k j : Nat} (hk : nth F k = some (rEs v l)) (hj : nth F j = some (all (evF l))) : ∀ w, Sat b F w → EL w v l := fun w H => ⟨(H.oat hk).sl, fun _ hm => evF_er hj hm w H⟩
theorem SameInts_S {va vb : Value} {xs ys : List Int} (ha : ∀ w, Sat b F w → VL (Value.int .i64) w va xs) (hb : ∀ w, Sat b F w → VL (Value.int .i64) w vb ys) : SC Try.prog n_entrepotkit_SameInts [va, vb] b F (fun v F' => v = .bool (decide (xs = ys)) ∧ F' = F) :=
  SC.ofExt fun w H => SameInts_spec (ha w H) (hb w H)
set_option maxHeartbeats 1000000 in
theorem SameIDs_R {va vb : Value} {l : List (List Int)} (ha : ∀ w, Sat b F w → SL w 32 va l.length (idsC l)) (hb : ∀ w, Sat b F w → SL w 32 vb l.length (idsC l)) (hl : len32 l) (hm : l.length ≤ 1000000) : SC Try.prog n_entrepotkit_SameIDs [va, vb] b F (fun v F' => v = .bool true ∧ F' = F) := by
  refine enterS F_entrepotkit_SameIDs rfl rfl rfl ?_
  refine sw_fact (fun w H => sl_form (ha w H)) ?_
  rintro ⟨A, c, rfl, h1, h2, h3, h4, _⟩
  refine sw_fact (fun w H => sl_form (hb w H)) ?_
  rintro ⟨B, d, rfl, q1, q2, q3, q4, _⟩
  (refine sw_seq ?_; refine sw_region ?_; refine so_1 rfl ?_; refine so_nil ?_; refine sn_then ?_; refine sw_seq ?_; refine sw_region ?_; (iterate 6 refine so_1 rfl ?_); refine so_nil ?_; refine sn_then ?_; (iterate 2 refine sw_seq ?_); refine sw_region ?_; refine so_1 rfl ?_; refine so_nil ?_; refine sn_then ?_; refine sw_block ?_)
  refine sw_know 5 (.bool true) rfl (by simp) ?_
  refine sw_loop (S := Nat) (fun i => [(0, .slice A l.length c), (1, .slice B l.length d), (5, .bool true), (6, .int .i64 (i : Int))]) (fun _ => F) (fun i => i ≤ l.length) (fun i => l.length - i) 0 ⟨rfl, rfl, rfl, rfl, trivial⟩ (Ent.refl _) (Nat.zero_le _) ?_
  intro i hi
  ((iterate 2 refine sw_seq ?_); refine sw_region ?_; (iterate 7 refine so_1 rfl ?_); refine so_nil ?_; refine sn_then ?_)
  refine sw_if rfl (fun g1 => ?_) (fun g1 => ?_)
  · have g1' : i < l.length := by omega
    obtain ⟨gA, oA, rfl⟩ := h4 (by omega)
    obtain ⟨gB, oB, rfl⟩ := q4 (by omega)
    have hx := hl _ (List.getElem_mem g1')
    have ca : ∀ w, Sat b F w → ∀ j, j < 32 → w.cell? ⟨gA, oA + i * 32 + j, none⟩ = (u8s l[i])[j]? := fun w H j hj => fl_cell (f := u8s) (by rw [← idsC_fl]; exact ha w H) (fun a h => by rw [u8s_len, hl a h]) g1' hj
    have cb : ∀ w, Sat b F w → ∀ j, j < 32 → w.cell? ⟨gB, oB + i * 32 + j, none⟩ = (u8s l[i])[j]? := fun w H j hj => fl_cell (f := u8s) (by rw [← idsC_fl]; exact hb w H) (fun a h => by rw [u8s_len, hl a h]) g1' hj
    generalize l[i] = x at *
    (refine sw_skip ?_; refine sn_then ?_; refine sw_seq ?_; refine sw_block ?_)
    refine sw_draw flo _ (by decide +kernel) (Ent.refl _) ?_
    ((iterate 2 refine sd_1 rfl (.inl rfl) ?_); refine sd_2 rfl rfl (by omega) ?_)
    refine sd_rd rfl (fun w H => ex_loadN (cs := u8s x) rfl rfl rfl (by rw [u8s_len, hx]; rfl) (fun j hj => by rw [mulz_eq, Int.toNat_natCast]; exact ca w H j (by rw [u8s_len, hx] at hj; exact hj))) rfl rfl ?_
    ((iterate 2 refine sd_1 rfl (.inl rfl) ?_); refine sd_2 rfl rfl (by omega) ?_)
    refine sd_rd rfl (fun w H => ex_loadN (cs := u8s x) rfl rfl rfl (by rw [u8s_len, hx]; rfl) (fun j hj => by rw [mulz_eq, Int.toNat_natCast]; exact cb w H j (by rw [u8s_len, hx] at hj; exact hj))) rfl rfl ?_
    refine sd_pu rfl (pu_eqI (as00 := x) (bs := x) rfl rfl hx hx) rfl rfl ?_
    refine sd_know 29 (.bool true) rfl (by simp) ?_
    (refine sd_1 rfl (.inl rfl) ?_)
    refine sd_nil ?_
    (refine sn_block ?_; refine sn_then ?_; refine sw_region ?_; refine so_1 rfl ?_; refine so_2 rfl (by (unfold I64; omega)) ?_; refine so_1 rfl ?_; refine so_nil ?_)
    refine sn_round (i + 1) ⟨rfl, rfl, rfl, rfl, trivial⟩ (Ent.refl _) ?_ ?_
    · show i + 1 ≤ l.length
      omega
    · show l.length - (i + 1) < l.length - i
      omega
  · (refine sw_exit ?_; refine sn_then_exit ?_; refine sn_loop_exit ?_; refine sn_block_exit ?_; refine sn_then ?_; refine sw_seq ?_; refine sw_region ?_; (iterate 2 refine so_1 rfl ?_); refine so_nil ?_; refine sn_then ?_; refine sw_ret ?_)
    refine sn_ret rfl (.tmp rfl .nil) (Ent.refl _) ?_
    exact ⟨rfl, rfl⟩
set_option maxRecDepth 20000 in
set_option maxHeartbeats 1000000 in
theorem LongEvent_S (h32 : e.id.length = 32) (he : ∀ w, Sat b F w → ER w e) : SC Try.prog n_entrepotkit_LongEvent [evV e] b F (fun v F' => ∃ q : Bool, (q = false → e.deps.length ≤ 20 ∧ e.refs.length ≤ 300 ∧ e.repo.size ≤ 200 ∧ e.tag.size ≤ 200) ∧ v = .bool q ∧ F' = F) := by
  refine enterS F_entrepotkit_LongEvent rfl rfl rfl ?_
  refine sw_fact (fun w H => (he w H).dv.form) ?_
  rintro ⟨A, c, hdv, _, _, _, _⟩
  refine sw_fact (fun w H => sl_form (he w H).rv) ?_
  rintro ⟨A2, c2, hrv, _, _, _, _, _⟩
  (refine sw_seq ?_; refine sw_region ?_)
  refine so_box rfl rfl rfl rfl rfl fun g1 => ?_
  (refine so_1 rfl ?_; refine so_nil ?_; refine sn_then ?_; refine sw_seq ?_; refine sw_region ?_; refine so_1 rfl ?_; refine so_l 0 rfl rfl rfl ?_)
  refine so_know 4 (.slice A e.deps.length c) rfl hdv ?_
  ((iterate 3 refine so_1 rfl ?_))
  by_cases h1 : 20 < e.deps.length
  · refine so_know 7 (.bool true) rfl (congrArg Value.bool (decide_eq_true (by omega))) ?_
    ((iterate 18 refine so_1 rfl ?_); refine so_nil ?_; refine sn_then ?_; refine sw_ret ?_)
    refine sn_ret rfl (.tmp rfl .nil) (ent_keep 1 [] rfl rfl) ?_
    exact ⟨true, (fun h => by cases h), rfl, rfl⟩
  refine so_know 7 (.bool false) rfl (congrArg Value.bool (decide_eq_false (by omega))) ?_
  (refine so_1 rfl ?_)
  refine so_ld 0 rfl rfl rfl rfl rfl rfl (evC_rv h32) rfl ?_
  refine so_know 9 (.slice A2 e.refs.length c2) rfl hrv ?_
  ((iterate 4 refine so_1 rfl ?_))
  by_cases h2 : 300 < e.refs.length
  · refine so_know 13 (.bool true) rfl (congrArg Value.bool (decide_eq_true (by omega))) ?_
    ((iterate 12 refine so_1 rfl ?_); refine so_nil ?_; refine sn_then ?_; refine sw_ret ?_)
    refine sn_ret rfl (.tmp rfl .nil) (ent_keep 1 [] rfl rfl) ?_
    exact ⟨true, (fun h => by cases h), rfl, rfl⟩
  refine so_know 13 (.bool false) rfl (congrArg Value.bool (decide_eq_false (by omega))) ?_
  (refine so_1 rfl ?_; refine so_l 0 rfl rfl rfl ?_; (iterate 4 refine so_1 rfl ?_))
  by_cases h3 : 200 < e.repo.size
  · refine so_know 19 (.bool true) rfl (congrArg Value.bool (decide_eq_true (by omega))) ?_
    ((iterate 6 refine so_1 rfl ?_); refine so_nil ?_; refine sn_then ?_; refine sw_ret ?_)
    refine sn_ret rfl (.tmp rfl .nil) (ent_keep 1 [] rfl rfl) ?_
    exact ⟨true, (fun h => by cases h), rfl, rfl⟩
  refine so_know 19 (.bool false) rfl (congrArg Value.bool (decide_eq_false (by omega))) ?_
  (refine so_1 rfl ?_; refine so_l 0 rfl rfl rfl ?_; (iterate 4 refine so_1 rfl ?_); refine so_nil ?_; refine sn_then ?_; refine sw_ret ?_)
  refine sn_ret rfl (.tmp rfl .nil) (ent_keep 1 [] rfl rfl) ?_
  exact ⟨_, fun h => ⟨by omega, by omega, by omega, by have := of_decide_eq_false h; omega⟩, rfl, rfl⟩
end
end Go.Proofs.Ytajbpdmhpcpkgaa
/- Events and what is held, continued: compared, copied. Conditions: not too many. -/
namespace Go.Proofs.Ytajbpdmhpcpkgaa
open Go.Eng Go.RowKit Go.WideMaps

theorem nE_eq {e f : Ev} (h : nE e = nE f) : ∃ dv rv, f = e.own dv rv := by
  refine ⟨f.dv, f.rv, ?_⟩
  have h1 : f = (nE f).own f.dv f.rv := rfl
  rw [h1, ← h]; rfl
section
variable {b : World} {F : List SP} {e f : Ev} {l : List Wn}
theorem ER.own {w : World} {dv rv : Value} (h : VL (Value.int .i64) w dv e.deps) (h2 : SL w 32 rv e.refs.length (idsC e.refs)) : ER w (e.own dv rv) := ⟨h, h2⟩
set_option maxRecDepth 20000 in
set_option maxHeartbeats 2000000 in
theorem SameEvent_S (h : nE e = nE f) (he : ∀ w, Sat b F w → ER w e) (hf : ∀ w, Sat b F w → ER w f) (h32 : e.id.length = 32) (hr : len32 e.refs) (hl : e.refs.length ≤ 1000000) :
    SC Try.prog n_entrepotkit_SameEvent [evV e, evV f] b F (fun v F' => v = .bool true ∧ F' = F) := by
  obtain ⟨dv, rv, rfl⟩ := nE_eq h
  have h33 : (e.own dv rv).id.length = 32 := h32
  refine enterS F_entrepotkit_SameEvent rfl rfl rfl ?_
  (refine sw_seq ?_; refine sw_region ?_)
  refine so_box rfl rfl rfl rfl rfl fun g2 => ?_
  skip
  refine so_box rfl rfl rfl rfl rfl fun g3 => ?_
  (refine so_1 rfl ?_; refine so_nil ?_; refine sn_then ?_; refine sw_seq ?_; refine sw_region ?_; refine so_1 rfl ?_; refine so_l 1 rfl rfl rfl ?_; refine so_1 rfl ?_; refine so_l 0 rfl rfl rfl ?_)
  refine so_pu rfl (pu_eqA rfl rfl (eq_dot _ _ _ _)) rfl ?_
  refine so_know 9 (.bool true) rfl (congrArg Value.bool (decide_eq_true ⟨rfl, rfl⟩)) ?_
  ((iterate 2 refine so_1 rfl ?_); refine so_l 1 rfl rfl rfl ?_; refine so_1 rfl ?_; refine so_l 0 rfl rfl rfl ?_)
  refine so_callE rfl rfl rfl (SameInts_S (up (fun w H => (he w H).dv) (ent_keep 2 [] rfl rfl)) (up (fun w H => (hf w H).dv) (ent_keep 2 [] rfl rfl))) ?_
  refine so_know 15 (.bool true) rfl (congrArg Value.bool (decide_eq_true rfl)) ?_
  ((iterate 3 refine so_1 rfl ?_); refine so_l 1 rfl rfl rfl ?_; refine so_1 rfl ?_; refine so_l 0 rfl rfl rfl ?_; (iterate 3 refine so_1 rfl ?_))
  refine so_know 24 (.bool true) rfl (congrArg Value.bool (decide_eq_true rfl)) ?_
  (refine so_1 rfl ?_; refine so_l 1 rfl rfl rfl ?_; refine so_1 rfl ?_; refine so_l 0 rfl rfl rfl ?_; (iterate 3 refine so_1 rfl ?_))
  refine so_know 31 (.bool true) rfl (by first | exact congrArg Value.bool (decide_eq_true rfl) | simp [Ev.own]) ?_
  (refine so_1 rfl ?_; refine so_l 1 rfl rfl rfl ?_; refine so_1 rfl ?_; refine so_l 0 rfl rfl rfl ?_; (iterate 3 refine so_1 rfl ?_))
  refine so_know 38 (.bool true) rfl (by first | exact congrArg Value.bool (decide_eq_true rfl) | simp [Ev.own]) ?_
  (refine so_1 rfl ?_)
  refine so_ldA 1 rfl rfl rfl rfl rfl rfl (evC_id h32) rfl ?_
  (refine so_1 rfl ?_)
  refine so_ldA 0 rfl rfl rfl rfl rfl rfl (evC_id h33) rfl ?_
  refine so_pu rfl (pu_eqI (as00 := e.id) (bs := e.id) rfl rfl h32 h32) rfl ?_
  refine so_know 43 (.bool true) rfl (congrArg Value.bool (decide_eq_true rfl)) ?_
  ((iterate 3 refine so_1 rfl ?_))
  refine so_ld 1 rfl rfl rfl rfl rfl rfl (evC_rv h32) rfl ?_
  (refine so_1 rfl ?_)
  refine so_ld 0 rfl rfl rfl rfl rfl rfl (evC_rv h33) rfl ?_
  refine so_callE rfl rfl rfl (SameIDs_R (l := e.refs) (up (fun w H => (he w H).rv) (ent_keep 2 [] rfl rfl)) (up (fun w H => (hf w H).rv) (ent_keep 2 [] rfl rfl)) hr hl) ?_
  ((iterate 2 refine so_1 rfl ?_); refine so_nil ?_; refine sn_then ?_; refine sw_ret ?_)
  refine sn_ret rfl (.tmp rfl .nil) (ent_keep 2 [] rfl rfl) ?_
  exact ⟨rfl, rfl⟩
theorem ev_len {l : List Ev} (h : ∀ m ∈ l, m.id.length = 32) : ∀ m ∈ l, (evC m).length = 39 := fun m hm => evC_len (h m hm)
theorem ev_cell {l : List Ev} {w : World} {bk off c i j : Nat} (h : EL w (.slice (some ⟨bk, off, none⟩) l.length c) l) (h32 : ∀ m ∈ l, m.id.length = 32) (hi : i < l.length) (hj : j < 39) : w.cell? ⟨bk, off + i * 39 + j, none⟩ = (evC l[i])[j]? := fl_cell h.sl (ev_len h32) hi hj
end
end Go.Proofs.Ytajbpdmhpcpkgaa
/- Events and what is held, continued: written over; which are too many; dots. Conditions: not too many. -/
namespace Go.Proofs.Ytajbpdmhpcpkgaa
open Go.Eng Go.RowKit Go.WideMaps

section
variable {b : World} {F : List SP}
/-- Events that were written over. -/
def evX (k : Int) : Ev := ⟨0, 0, .slice none 0 0, [], k, ⟨#[]⟩, ⟨#[]⟩, List.replicate 32 0, .slice none 0 0, []⟩
end
end Go.Proofs.Ytajbpdmhpcpkgaa
/- Events and what is held, continued: which are too many. Conditions: none. -/
namespace Go.Proofs.Ytajbpdmhpcpkgaa
open Go.Eng Go.RowKit Go.WideMaps

def LE (e : Ev) : Prop := e.deps.length ≤ 20 ∧ e.refs.length ≤ 300 ∧ e.repo.size ≤ 200 ∧ e.tag.size ≤ 200
section
variable {b : World} {F : List SP}
end
end Go.Proofs.Ytajbpdmhpcpkgaa
/- Events and what is held, as arguments: read. Conditions: none. -/
namespace Go.Proofs.Ytajbpdmhpcpkgaa
open Go Go.Eng Go.RowKit

theorem flat_fl {α β : Type} {g : α → β} {f : β → List Value} : ∀ {ess : List (List Value)} {xs : List α}, ess.length = xs.length → (∀ (i : Nat) e a, ess[i]? = some e → xs[i]? = some a → e = f (g a)) → ess.flatten = flC f (xs.map g)
  | [], [], _, _ => rfl
  | [], _ :: _, h, _ => by simp at h
  | _ :: _, [], h, _ => by simp at h
  | e :: ess, a :: xs, h, hh => by
    rw [List.flatten_cons, hh 0 e a rfl rfl, flat_fl (by simpa using h) fun i e a h1 h2 => hh (i + 1) e a h1 h2]; rfl
theorem rdL_flat {α β : Type} {R : Rdg α} {g : α → β} {f : β → List Value} {p : β → Prop} {W : World} (hR : ∀ cs x, R W cs x → cs = f (g x) ∧ p (g x)) {sz : Nat} {cs : List Value} {x : Value × List α} (h : rdL sz R W cs x) : cs = [x.1] ∧ SL W sz x.1 (x.2.map g).length (flC f (x.2.map g)) ∧ ∀ y ∈ x.2.map g, p y := by
  obtain ⟨hv, ess, e1, e2, e3, e4⟩ := h
  have hf := flat_fl (f := f) (g := g) e1 fun i e a h1 h2 => (hR e a (e4 i e a h1 h2)).1
  rw [hf] at e3
  refine ⟨hv, by rw [List.length_map]; exact e3, fun y hy => ?_⟩
  obtain ⟨a, ha, rfl⟩ := List.mem_map.1 hy
  obtain ⟨i, hi, rfl⟩ := List.mem_iff_getElem.1 ha
  exact (hR _ _ (e4 i _ _ (List.getElem?_eq_getElem (by omega)) (List.getElem?_eq_getElem hi))).2
theorem rdI_list {W : World} {k : IntKind} {cs : List Value} {x : Value × List Int} (h : rdL 1 (rdI k) W cs x) : cs = [x.1] ∧ VL (Value.int k) W x.1 x.2 ∧ ∀ n ∈ x.2, (Lit.int k n).wf = true := by
  obtain ⟨h1, h2, h3⟩ := rdL_flat (g := id) (f := fun n => [Value.int k n]) (p := fun n => (Lit.int k n).wf = true) (fun cs x hx => ⟨hx.1, hx.2⟩) h
  rw [List.map_id] at h2 h3
  have e : ∀ l : List Int, flC (fun x : Int => [Value.int k x]) l = l.map (Value.int k) := fun l => by
    induction l with
    | nil => rfl
    | cons x l ih => simp only [flC, ih]; rfl
  rw [e] at h2
  exact ⟨h1, h2, h3⟩
theorem rdID_list {W : World} {cs : List Value} {x : Value × List (List Int)} (h : rdL 32 (Go.Eng.rdA 32 .u8) W cs x) : cs = [x.1] ∧ SL W 32 x.1 x.2.length (idsC x.2) ∧ ∀ y ∈ x.2, idOk y := by
  obtain ⟨h1, h2, h3⟩ := rdL_flat (g := id) (f := u8s) (p := idOk) (fun cs x hx => ⟨hx.1, hx.2⟩) h
  rw [List.map_id] at h2 h3
  rw [idsC_fl]
  exact ⟨h1, h2, h3⟩
abbrev rdEv : Rdg ((Int × Int) × (Value × List Int) × Int × ByteArray × ByteArray × List Int × (Value × List (List Int))) :=
  rdN 2 (rdN 1 (rdI .i64) (rdI .i64)) (rdN 1 (rdL 1 (rdI .i64)) (rdN 1 (rdI .i64) (rdN 1 rdS (rdN 1 rdS (rdN 32 (Go.Eng.rdA 32 .u8) (rdL 32 (Go.Eng.rdA 32 .u8)))))))
def evOf (x : (Int × Int) × (Value × List Int) × Int × ByteArray × ByteArray × List Int × (Value × List (List Int))) : Ev :=
  ⟨x.1.1, x.1.2, x.2.1.1, x.2.1.2, x.2.2.1, x.2.2.2.1, x.2.2.2.2.1, x.2.2.2.2.2.1, x.2.2.2.2.2.2.1, x.2.2.2.2.2.2.2⟩
theorem i64wf' {x : Int} (h : (Lit.int .i64 x).wf = true) : I64 x := (i64wf x).1 h
theorem cut_eq {n : Nat} {cs a c : List Value} (h1 : cs.take n = a) (h2 : cs.drop n = c) : cs = a ++ c := by rw [← h1, ← h2, List.take_append_drop]
theorem ev_of_rd {W : World} {cs : List Value} {x} (h : rdEv W cs x) : cs = evC (evOf x) ∧ EW (evOf x) ∧ ER W (evOf x) := by
  obtain ⟨h1, h2, h3, h4, h5, h6, h7⟩ := h
  obtain ⟨⟨a1, a2⟩, a3, a4⟩ := h1
  obtain ⟨b1, b2, b3⟩ := rdI_list h2
  obtain ⟨c1, c2⟩ := h3
  obtain ⟨d1, d2⟩ := h4
  obtain ⟨e1, e2⟩ := h5
  obtain ⟨f1, f2, f3⟩ := h6
  obtain ⟨g1, g2, g3⟩ := rdID_list h7
  refine ⟨?_, ⟨⟨f2, f3⟩, ⟨a2, a4⟩, g3, i64wf' c2, fun y hy => i64wf' (b3 y hy), d2, e2⟩, ⟨b2, g2⟩⟩
  exact cut_eq (cut_eq a1 a3) (cut_eq b1 (cut_eq c1 (cut_eq d1 (cut_eq e1 (cut_eq f1 g1)))))
theorem ER.ext {w w' : World} {e : Ev} (h : ER w e) (x : Ext w w') : ER w' e := ⟨h.dv.ext x, h.rv.ext x⟩
theorem WL.ext {w w' : World} {v : Value} {l : List Wn} (h : WL w v l) (x : Ext w w') : WL w' v l := ⟨h.sl.ext x, fun m hm => (h.er m hm).ext x⟩
theorem EL.ext {w w' : World} {v : Value} {l : List Ev} (h : EL w v l) (x : Ext w w') : EL w' v l := ⟨h.sl.ext x, fun m hm => (h.er m hm).ext x⟩
end Go.Proofs.Ytajbpdmhpcpkgaa
