/- Wire, part one: the plain law of numbers as bytes: written and read again. Conditions: stated in each. -/
import Derived.Test.YtdmfcnjgdicncaaGreatQ1
import Derived.Test.YtdmfcnjgdicncaaGreatQ5
import Derived.Test.YtdmfcnjgdicncaaGreatQ0
import Derived.Test.YtdmfcnjgdicncaaGreatQ3
namespace Go.Proofs.YtdmfcnjgdicncaaGreat

def kk : Nat → Nat → Int → Nat
 | 0, k, _ => k
 | m + 1, k, n => if n / 256 ^ k > 0 then kk m (k + 1) n else k
structure RS where
 at' : Nat
 e : Int
 fa : Int
section
variable {B : List Int} {s : RS}
end
open Go Go.Eng Go.RowKit

structure WS where
 b : List Int
 e : Int


def okNum (x : Int) : Bool := decide (0 ≤ x) && decide (x ≤ 1048576)
def placedB (e : Ev) (n : Int) : Bool :=
 decide (1 ≤ e.r ∧ e.r ≤ n ∧ 1 ≤ e.n ∧ e.n ≤ 1048576 ∧ (e.deps.length : Int) = n) && e.deps.all okNum && decide (e.deps[(e.r - 1).toNat]?.getD 0 = e.n - 1)
def riseB (l : List (List Int)) : Bool := (List.range (l.length - 1)).all fun i => decide (cmpM (l[i]?.getD []) (l[i + 1]?.getD []) < 0)
def refsE (e : Ev) (asked : Bool) (w : Int) : Int :=
 if asked = false then (if e.refs.length = 0 then 0 else 2)
 else if e.refs.length = 0 ∨ 256 < e.refs.length ∨ e.id ∉ e.refs ∨ riseB e.refs = false then 2
 else if (e.refs.all fun x => hasM x w) = true then 0 else 8
def tagE (e : Ev) : Int := if e.kind = 3 ∨ e.kind = 4 then (if tagF (strI e.tag) = (0, 0) then 0 else 7) else if e.tag.size = 0 then 0 else 2
def idE (e : Ev) (w : Int) : Int := if e.kind = 4 then (if e.id = List.replicate 32 0 then 0 else 8) else if hasM e.id w = true then 0 else 8
def chkE (e : Ev) (n w : Int) : Int :=
 if n < 1 ∨ 16 < n ∨ w < 1 ∨ 32 < w then 3
 else if placedB e n = false then 2
 else if e.kind < 1 ∨ 4 < e.kind then 5
 else if repoF (strI e.repo) ≠ (0, 0) then 7
 else if tagE e ≠ 0 then tagE e
 else if idE e w ≠ 0 then idE e w
 else refsE e (decide (e.kind = 1 ∨ e.kind = 3)) w

section
variable {b : World} {F : List SP}
end

section
variable {b : World} {F : List SP}
end

section
variable {b : World} {F : List SP}
theorem IxI_S {fn : Nat} [Bodied Tryz.prog fn] {va : Value} {xs : List Int} {q : Int → Bool} (hq : ∀ x ∈ xs, SC Tryz.prog fn [.int .i64 x] b F (fun v F' => v = .bool (q x) ∧ F' = F)) (ha : ∀ w, Sat b F w → VL (Value.int .i64) w va xs) (hn : xs.length ≤ 10000000) :
  SC Tryz.prog n_slices_IndexFunc_sl_int_int [va, .func (.func fn) ⟨[]⟩ ⟨[]⟩] b F (fun v F' => (∃ i : Int, v = .int .i64 i ∧ decide (0 ≤ i) = xs.any q) ∧ F' = F) := by
 refine enterS F_slices_IndexFunc_sl_int_int rfl rfl rfl ?_
 refine sw_fact (fun w H => (ha w H).form) ?_
 rintro ⟨A, c, rfl, h1, h2, h3, h4⟩
 (refine sw_seq (sw_region ?_); refine so_1 rfl ?_; refine so_nil (sn_then ?_); (iterate 2 refine sw_seq ?_); refine sw_region ?_; (iterate 3 refine so_1 rfl ?_); refine so_nil (sn_then ?_); refine sw_block ?_)
 refine sw_loop (S := Nat) (fun i => [(0, .slice A xs.length c), (1, .func (.func fn) ⟨[]⟩ ⟨[]⟩), (7, .int .i64 xs.length), (8, .int .i64 (i : Int))]) (fun _ => F) (fun i => i ≤ xs.length ∧ (xs.take i).any q = false) (fun i => xs.length - i) 0 ⟨rfl, rfl, rfl, rfl, trivial⟩ (Ent.refl _) ⟨Nat.zero_le _, rfl⟩ ?_
 rintro i ⟨hi, hk⟩
 (refine sw_seq (sw_region ?_); refine so_1 rfl ?_; refine so_nil (sn_then ?_); refine sw_seq ?_)
 refine sw_if rfl (fun h => ?_) (fun h => ?_)
 ·have h' : i < xs.length := by omega
  obtain ⟨bk, off, rfl⟩ := h4 (by omega)
  (refine sw_skip ?_; refine sn_then ?_; refine sw_seq ?_; refine sw_block ?_; refine sw_seq (sw_region ?_); (iterate 2 refine so_1 rfl ?_); refine so_nil (sn_then ?_); refine sw_seq (sw_region ?_); (iterate 3 refine so_1 rfl ?_); refine so_2 rfl (by omega) ?_)
  refine so_rd rfl (fun w H => ex_load rfl rfl rfl (by rw [mulz_eq]; simpa using VL.at (ha w H) i h')) rfl ?_
  refine so_callE rfl rfl rfl (hq _ (List.getElem_mem h')) ?_
  cases hx : q xs[i] with
  | true =>
   (refine so_nil (sn_then ?_); refine sw_cond_t rfl ?_; refine sw_seq (sw_region ?_); (iterate 2 refine so_1 rfl ?_); refine so_nil (sn_then ?_); refine sw_ret ?_; refine sn_block_ret ?_; refine sn_then_ret ?_; refine sn_loop_ret ?_; refine sn_block_ret ?_; refine sn_then_ret ?_)
   refine sn_ret rfl (.tmp rfl .nil) (Ent.refl _) ?_
   refine ⟨⟨i, rfl, ?_⟩, rfl⟩
   rw [decide_eq_true (by omega)]
   exact (List.any_eq_true.2 ⟨_, List.getElem_mem h', hx⟩).symm
  | false =>
   (refine so_nil (sn_then ?_); refine sw_cond_f rfl ?_; refine sw_skip ?_; refine sn_block ?_; refine sn_then ?_; refine sw_region ?_; refine so_2 rfl (by (unfold I64; omega)) ?_; refine so_1 rfl ?_; refine so_nil ?_)
   refine sn_round (i + 1) ⟨rfl, rfl, rfl, rfl, trivial⟩ (Ent.refl _) ⟨h', ?_⟩ (by omega)
   rw [List.take_succ_eq_append_getElem h', List.any_append, hk]
   simp [hx]
 ·(refine sw_exit ?_; refine sn_then_exit ?_; refine sn_loop_exit ?_; refine sn_block_exit ?_; refine sn_then ?_; refine sw_seq (sw_region ?_); refine so_1 rfl ?_; refine so_nil (sn_then ?_); refine sw_ret ?_)
  refine sn_ret rfl (.tmp rfl .nil) (Ent.refl _) ?_
  refine ⟨⟨-1, rfl, ?_⟩, rfl⟩
  rw [List.take_of_length_le (by omega)] at hk
  rw [hk]; rfl
theorem CFnI_S {fn : Nat} [Bodied Tryz.prog fn] {va : Value} {xs : List Int} {q : Int → Bool} (hq : ∀ x ∈ xs, SC Tryz.prog fn [.int .i64 x] b F (fun v F' => v = .bool (q x) ∧ F' = F)) (ha : ∀ w, Sat b F w → VL (Value.int .i64) w va xs) (hn : xs.length ≤ 10000000) :
  SC Tryz.prog n_slices_ContainsFunc_sl_int_int [va, .func (.func fn) ⟨[]⟩ ⟨[]⟩] b F (fun v F' => v = .bool (xs.any q) ∧ F' = F) := by
 refine enterS F_slices_ContainsFunc_sl_int_int rfl rfl rfl ?_
 (refine sw_seq (sw_region ?_); refine so_1 rfl ?_; refine so_nil (sn_then ?_); refine sw_seq (sw_region ?_); (iterate 2 refine so_1 rfl ?_))
 refine so_call rfl rfl rfl (IxI_S hq ha hn) ?_
 rintro _ _ ⟨⟨i, rfl, hi⟩, rfl⟩
 ((iterate 2 refine so_1 rfl ?_); refine so_nil (sn_then ?_); refine sw_ret ?_)
 refine sn_ret rfl (.tmp rfl .nil) (Ent.refl _) ?_
 exact ⟨congrArg Value.bool hi, rfl⟩
end

section
variable {b : World} {F : List SP} {g gw : Nat} {v va : Value} {lim : Int} {s : WS}
end

section
variable {b : World} {F : List SP} {g gw : Nat} {v : Value} {B : List Int} {s : RS}
end

section
variable {b : World} {F : List SP} {g gw : Nat} {v : Value} {B : List Int} {s : RS}
end

section
variable {b : World} {F : List SP} {g gw : Nat} {v va : Value} {B : List Int} {s : RS}
end
end Go.Proofs.YtdmfcnjgdicncaaGreat
