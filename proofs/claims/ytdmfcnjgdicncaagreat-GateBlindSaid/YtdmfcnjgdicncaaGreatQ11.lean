/- Blobs, part eleven: the heap: down, Push, Pop. Conditions: not too many. -/
import Derived.Test.YtdmfcnjgdicncaaGreatQ0
import Derived.Test.YtdmfcnjgdicncaaGreatQ3
namespace Go.Proofs.YtdmfcnjgdicncaaGreat
open Go.Eng Go.RowKit Go.WideMaps

section
variable {b : World} {F : List SP} {A : Option Addr} {c n gh : Nat} {l : List (List Int)}
end

section
variable {b : World} {F : List SP} {A : Option Addr} {c n gh : Nat} {l : List (List Int)} {x : List Int}
end

theorem cb_asymm : ∀ x y : List UInt8, Lib.compareBytes x y < 0 → ¬ Lib.compareBytes y x < 0
 | [], [] => by simp [Lib.compareBytes]
 | [], _ :: _ => by simp [Lib.compareBytes]
 | _ :: _, [] => by simp [Lib.compareBytes]
 | a :: x, b :: y => by
  have ih := cb_asymm x y
  simp only [Lib.compareBytes, UInt8.lt_iff_toNat_lt]
  repeat' split
  all_goals first | omega | exact ih
theorem cb_trans : ∀ x y z : List UInt8, ¬ Lib.compareBytes y x < 0 → ¬ Lib.compareBytes z y < 0 → ¬ Lib.compareBytes z x < 0
 | [], _, [] => by simp [Lib.compareBytes]
 | [], _, _ :: _ => by simp [Lib.compareBytes]
 | _ :: _, [], [] => by simp [Lib.compareBytes]
 | _ :: _, _ :: _, [] => by simp [Lib.compareBytes]
 | _ :: _, [], _ :: _ => by simp [Lib.compareBytes]
 | a :: x, b :: y, c :: z => by
  have ih := cb_trans x y z
  simp only [Lib.compareBytes, UInt8.lt_iff_toNat_lt]
  repeat' split
  all_goals first | omega | exact ih
def leM (x y : List Int) : Prop := ¬ cmpM y x < 0
theorem leM_of {x y : List Int} (h : cmpM x y < 0) : leM x y := cb_asymm _ _ h
theorem leM_trans {x y z : List Int} (h1 : leM x y) (h2 : leM y z) : leM x z := cb_trans _ _ _ h1 h2
abbrev at' (l : List (List Int)) (i : Nat) : List Int := l.getD i []

section
variable {b : World} {F : List SP}
variable {w r u : Int} {gs gm : Nat} {l : List Kp}
end

section
variable {b : World} {F : List SP} {p : Value} {id : List Int} (hn : ∀ A : List SP, SC Tryz.prog n_p_blob_Store_none [p] b (A ++ F) (fun v F' => v = .bool true ∧ F' = A ++ F))
include hn
end
section
variable {b : World} {F : List SP} {q A0 : Option Addr} {n0 c0 : Nat} {id : List Int} (hn : ∀ A : List SP, SC Tryz.prog n_p_blob_Store_none [.pointer q] b (A ++ F) (fun v F' => v = .bool true ∧ F' = A ++ F))
include hn
end
set_option maxRecDepth 100000

section
variable {b : World} {F : List SP} {gs gm : Nat} {w r u u' : Int} {l : List Kp} {s : ByteArray} {is : Bool} {e : Int} {Pl : List Kp → Prop}
end
theorem strI_bw (s : ByteArray) : byteW (strI s) := by
 intro c hc
 obtain ⟨x, _, rfl⟩ := List.mem_map.1 hc
 have := x.toNat_lt
 omega
theorem idOk_cut (xs : List Int) (w : Int) : idOk (cutR (sumM xs) w) := idOk_of (cutR_len _ _ (sumM_len _)) (cutR_byte (sumM_byte _) w)
section
variable {b : World} {F : List SP}
end


section
variable {b : World} {F : List SP}
end

theorem flat_one {α : Type} {f : α → Value} : ∀ {ess : List (List Value)} {xs : List α}, ess.length = xs.length → (∀ (i : Nat) e a, ess[i]? = some e → xs[i]? = some a → e = [f a]) → ess.flatten = xs.map f
 | [], [], _, _ => rfl
 | [], _ :: _, h, _ => by simp at h
 | _ :: _, [], h, _ => by simp at h
 | e :: ess, a :: xs, h, hh => by
  rw [List.flatten_cons, hh 0 e a rfl rfl, flat_one (by simpa using h) fun i e a h1 h2 => hh (i + 1) e a h1 h2]; rfl
theorem vl_of_rd {W : World} {v : Value} {k : IntKind} {x : Value × List Int} (h : rdL 1 (rdI k) W [v] x) : VL (Value.int k) W v x.2 ∧ ∀ n ∈ x.2, (Lit.int k n).wf = true := by
 obtain ⟨hv, ess, e1, e2, e3, e4⟩ := h
 simp only [List.cons.injEq, and_true] at hv
 subst hv
 have hf := flat_one (f := Value.int k) e1 fun i e a h1 h2 => (e4 i e a h1 h2).1
 rw [hf] at e3
 refine ⟨e3, fun n hn => ?_⟩
 obtain ⟨i, hi, rfl⟩ := List.mem_iff_getElem.1 hn
 exact (e4 i _ _ (List.getElem?_eq_getElem (by omega)) (List.getElem?_eq_getElem hi)).2
def LB (W : World) (v : Value) (xss : List (List Int)) : Prop := ∃ vs : List Value, vs.length = xss.length ∧ VL id W v vs ∧ ∀ (i : Nat) u xs, vs[i]? = some u → xss[i]? = some xs → VL (Value.int .u8) W u xs ∧ byteW xs
theorem lb_of_rd {W : World} {v : Value} {x : Value × List (Value × List Int)} (h : rdL 1 (rdL 1 (rdI .u8)) W [v] x) : LB W v (x.2.map (·.2)) := by
 obtain ⟨hv, ess, e1, e2, e3, e4⟩ := h
 simp only [List.cons.injEq, and_true] at hv
 subst hv
 have hf : ess.flatten = (x.2.map (·.1)).map id := by
  rw [List.map_map]
  exact flat_one e1 fun i e a h1 h2 => (e4 i e a h1 h2).1
 rw [hf] at e3
 refine ⟨x.2.map (·.1), by simp, ?_, fun i u xs h1 h2 => ?_⟩
 ·unfold VL; rw [List.length_map]; exact e3
 ·simp only [List.getElem?_map, Option.map_eq_some_iff] at h1 h2
  obtain ⟨a, ha, rfl⟩ := h1
  obtain ⟨a', ha', rfl⟩ := h2
  obtain rfl : a = a' := by rw [ha] at ha'; exact Option.some.inj ha'
  have hi : i < ess.length := by rw [e1]; exact (List.getElem?_eq_some_iff.1 ha).1
  have := e4 i _ a (List.getElem?_eq_getElem hi) ha
  have hu : ess[i] = [a.1] := this.1
  rw [hu] at this
  obtain ⟨h3, h4⟩ := vl_of_rd this
  exact ⟨h3, byteW_of h4⟩
theorem LB.get {W : World} {v : Value} {xss : List (List Int)} (h : LB W v xss) : ∃ A c, v = .slice A xss.length c ∧ xss.length ≤ c ∧ c ≤ 9223372036854775807 ∧ ∀ i (hi : i < xss.length), ∃ bk off u, A = some ⟨bk, off, none⟩ ∧ bk < W.heap.size ∧ W.cell? ⟨bk, off + i, none⟩ = some u ∧ VL (Value.int .u8) W u xss[i] ∧ byteW xss[i] := by
 obtain ⟨vs, h1, h2, h3⟩ := h
 obtain ⟨A, c, rfl, f1, f2, f3, f4⟩ := h2.op
 refine ⟨A, c, by rw [h1], by omega, f2, fun i hi => ?_⟩
 obtain ⟨bk, off, g1, g2, g3⟩ := f4 i (by omega)
 refine ⟨bk, off, vs[i]'(by omega), g1, g2, g3 i (by omega), ?_⟩
 exact h3 i _ _ (List.getElem?_eq_getElem (by omega)) (List.getElem?_eq_getElem hi)
theorem is_cell {b : World} {F : List SP} {bk off k : Nat} {u : Value} (hk : nth F k = some (Is b)) (hb : bk < b.heap.size) (hc : b.cell? ⟨bk, off, none⟩ = some u) : ∀ w, Sat b F w → w.cell? ⟨bk, off, none⟩ = some u := fun w H => by
 exact (H.is hk).cell hc
section
variable {b : World} {F : List SP} {v : Value} {xss : List (List Int)} {n m : Int}
theorem LongLists_S (hl : LB b v xss) (hF : nth F 0 = some (Is b)) (hn : I64 n) (hm : I64 m) : SC Tryz.prog n_entrepotkit_LongLists [v, .int .i64 n, .int .i64 m] b F (fun u F' => ∃ r : Bool, (r = false → (xss.length : Int) ≤ n ∧ ∀ xs ∈ xss, (xs.length : Int) ≤ m) ∧ u = .bool r ∧ F' = F) := by
 obtain ⟨A, c, rfl, f1, f2, f3⟩ := hl.get
 refine enterS F_entrepotkit_LongLists rfl rfl rfl ?_
 (refine sw_seq (sw_region ?_); refine so_1 rfl ?_; refine so_nil (sn_then ?_); (iterate 2 refine sw_seq ?_); refine sw_region ?_; refine so_1 rfl ?_; refine so_nil (sn_then ?_); refine sw_block ?_)
 refine sw_loop (S := Nat) (fun i => [(0, .slice A xss.length c), (1, .int .i64 n), (2, .int .i64 m), (7, .int .i64 (i : Int))]) (fun _ => F) (fun i => i ≤ xss.length ∧ ∀ k (hk : k < xss.length), k < i → (xss[k].length : Int) ≤ m) (fun i => xss.length - i) 0 ⟨rfl, rfl, rfl, rfl, trivial⟩ (Ent.refl _) ⟨Nat.zero_le _, fun k _ h => absurd h (Nat.not_lt_zero k)⟩ ?_
 rintro i ⟨hi, hk⟩
 ((iterate 2 refine sw_seq ?_); refine sw_region ?_; (iterate 5 refine so_1 rfl ?_))
 by_cases h1 : i < xss.length
 ·refine so_know 12 (.bool true) rfl (by simp; omega) ?_
  ((iterate 4 refine so_1 rfl ?_); refine so_nil (sn_then ?_))
  refine sw_if rfl (fun h2 => ?_) (fun h2 => ?_)
  ·obtain ⟨bk, off, u, rfl, g1, g2, g3, g4⟩ := f3 i h1
   (refine sw_skip ?_; refine sn_then ?_; refine sw_seq ?_; refine sw_block ?_; refine sw_seq (sw_region ?_); (iterate 2 refine so_1 rfl ?_); refine so_2 rfl (by omega) ?_)
   refine so_rd rfl (fun w H => ex_load rfl rfl rfl (by rw [mulz_eq, Nat.mul_one]; exact is_cell hF g1 g2 w H)) rfl ?_
   obtain ⟨A2, c2, rfl, q1, q2, q3, q4⟩ := g3.form
   ((iterate 3 refine so_1 rfl ?_); refine so_nil (sn_then ?_))
   refine sw_if rfl (fun h3 => ?_) (fun h3 => ?_)
   ·(refine sw_seq (sw_region ?_); refine so_1 rfl ?_; refine so_nil (sn_then ?_); refine sw_ret ?_; refine sn_block_ret ?_; refine sn_then_ret ?_; refine sn_loop_ret ?_; refine sn_block_ret ?_; refine sn_then_ret ?_)
    refine sn_ret rfl (.tmp rfl .nil) (Ent.refl _) ?_
    exact ⟨true, (fun h => by cases h), rfl, rfl⟩
   ·(refine sw_skip ?_; refine sn_block ?_; refine sn_then ?_; refine sw_region ?_; refine so_1 rfl ?_; refine so_2 rfl (by (unfold I64; omega)) ?_; refine so_1 rfl ?_; refine so_nil ?_)
    refine sn_round (i + 1) ⟨rfl, rfl, rfl, rfl, trivial⟩ (Ent.refl _) ⟨h1, fun k hk' hlt => ?_⟩ (by first | omega | (dsimp only; omega))
    by_cases e : k = i
    ·subst e; omega
    ·exact hk k hk' (by omega)
  ·(refine sw_exit ?_; refine sn_then_exit ?_; refine sn_loop_exit ?_; refine sn_block_exit ?_; refine sn_then ?_; refine sw_seq (sw_region ?_); (iterate 5 refine so_1 rfl ?_); refine so_nil (sn_then ?_); refine sw_ret ?_)
   refine sn_ret rfl (.tmp rfl .nil) (Ent.refl _) ?_
   exact ⟨_, fun h => by simp at h; omega, rfl, rfl⟩
 ·refine so_know 12 (.bool false) rfl (by simp; omega) ?_
  ((iterate 4 refine so_1 rfl ?_); refine so_nil (sn_then ?_); refine sw_cond_f rfl ?_; refine sw_exit ?_; refine sn_then_exit ?_; refine sn_loop_exit ?_; refine sn_block_exit ?_; refine sn_then ?_; refine sw_seq (sw_region ?_); (iterate 5 refine so_1 rfl ?_); refine so_nil (sn_then ?_); refine sw_ret ?_)
  refine sn_ret rfl (.tmp rfl .nil) (Ent.refl _) ?_
  refine ⟨_, fun h => ⟨by simpa using h, fun xs hx => ?_⟩, rfl, rfl⟩
  obtain ⟨k, hk', rfl⟩ := List.mem_iff_getElem.1 hx
  exact hk k hk' (by omega)
end

section
variable {b : World} {F : List SP} {va vb : Value} {xs ys : List Int} {id : List Int}
end


theorem cb_zero : ∀ x y : List UInt8, ¬ Lib.compareBytes x y < 0 → ¬ Lib.compareBytes y x < 0 → x = y
 | [], [] => by simp
 | [], _ :: _ => by simp [Lib.compareBytes]
 | _ :: _, [] => by simp [Lib.compareBytes]
 | a :: x, b :: y => by
  have ih := cb_zero x y
  simp only [Lib.compareBytes, UInt8.lt_iff_toNat_lt]
  intro h1 h2
  by_cases h3 : a.toNat < b.toNat
  ·rw [if_pos h3] at h1; omega
  ·by_cases h4 : b.toNat < a.toNat
   ·rw [if_pos h4] at h2; omega
   ·rw [if_neg h3, if_neg h4] at h1
    rw [if_neg h4, if_neg h3] at h2
    have e : a = b := UInt8.toNat_inj.1 (by omega)
    rw [e, ih h1 h2]
theorem u8l_inj {x y : List Int} (hx : byteW x) (hy : byteW y) (h : u8l x = u8l y) : x = y := by
 induction x generalizing y with
 | nil => cases y with
  | nil => rfl
  | cons b y => simp [u8l] at h
 | cons a x ih => cases y with
  | nil => simp [u8l] at h
  | cons b y =>
   simp only [u8l, List.map_cons, List.cons.injEq] at h
   have h1 := hx a (by simp); have h2 := hy b (by simp)
   have h3 := congrArg UInt8.toNat h.1
   simp only [UInt8.toNat_ofNat'] at h3
   rw [ih (fun c hc => hx c (by simp [hc])) (fun c hc => hy c (by simp [hc])) h.2]
   congr 1; omega
theorem lt_of_le_ne {x y : List Int} (hx : byteW x) (hy : byteW y) (h : leM x y) (hne : x ≠ y) : cmpM x y < 0 :=
 Classical.byContradiction fun h2 => hne (u8l_inj hx hy (cb_zero _ _ h2 h))
theorem idOk_byte {a : List Int} (h : idOk a) : byteW a := fun x hx => (u8wf x).1 (h.2 x hx)

abbrev dg (xs : List Int) (w : Int) : List Int := cutR (sumM xs) w
def lenSum (l : List Kp) : Int := (l.map fun e => (e.b.length : Int)).sum
structure StI (w r u : Int) (l : List Kp) : Prop where
 nd : (l.map (·.id)).Nodup
 ids : ∀ e ∈ l, e.id = dg e.b w
 bw : ∀ e ∈ l, byteW e.b
 ln : ∀ e ∈ l, e.b.length ≤ 4100
 us : u = lenSum l
 ur : u ≤ r
theorem StI.nil (w : Int) {r : Int} (h : 0 ≤ r) : StI w r 0 [] := ⟨by simp, by simp, by simp, by simp, rfl, h⟩
theorem findK_mem {a : List Int} {l : List Kp} {e : Kp} (h : findK a l = some e) : e ∈ l ∧ e.id = a := by
 obtain ⟨l1, l2, rfl, h2, _⟩ := kF_perm h
 exact ⟨by simp, h2⟩
theorem findK_none {a : List Int} {l : List Kp} (h : findK a l = none) : ∀ e ∈ l, e.id ≠ a := by
 induction l with
 | nil => simp
 | cons x l ih =>
  simp only [findK] at h
  split at h
  ·cases h
  ·rename_i hx
   intro e he
   rcases List.mem_cons.1 he with rfl | he
   ·exact hx
   ·exact ih h e he
theorem lenSum_app (l1 l2 : List Kp) : lenSum (l1 ++ l2) = lenSum l1 + lenSum l2 := by simp [lenSum]
theorem lenSum_nn (l : List Kp) : 0 ≤ lenSum l := by
 induction l with
 | nil => exact Int.le_refl _
 | cons x l ih =>
  have : lenSum (x :: l) = (x.b.length : Int) + lenSum l := by simp [lenSum]
  omega
theorem StI.put {w r u : Int} {l : List Kp} (h : StI w r u l) {xs : List Int} {g : Nat} {v1 : Value} (hn : findK (dg xs w) l = none) (hx : byteW xs) (hlen : xs.length ≤ 4100) (hr : u + xs.length ≤ r) : StI w r (u + xs.length) (l ++ [⟨dg xs w, xs, g, v1⟩]) := by
 have hm : ∀ e ∈ l ++ [(⟨dg xs w, xs, g, v1⟩ : Kp)], e ∈ l ∨ e = ⟨dg xs w, xs, g, v1⟩ := fun e he => by simpa using he
 refine ⟨?_, fun e he => ?_, fun e he => ?_, fun e he => ?_, ?_, hr⟩
 ·simp only [List.map_append, List.map_cons, List.map_nil]
  refine List.nodup_append.2 ⟨h.nd, by simp, fun a ha z hz => ?_⟩
  obtain ⟨e, he, rfl⟩ := List.mem_map.1 ha
  obtain rfl : z = dg xs w := by simpa using hz
  exact findK_none hn e he
 ·rcases hm e he with he | rfl
  ·exact h.ids e he
  ·rfl
 ·rcases hm e he with he | rfl
  ·exact h.bw e he
  ·exact hx
 ·rcases hm e he with he | rfl
  ·exact h.ln e he
  ·exact hlen
 ·rw [lenSum_app, ← h.us]; simp [lenSum]

section
variable {b : World} {F : List SP} {gs gm : Nat} {w r u : Int} {l : List Kp}
end

section
variable {b : World} {F : List SP} {gs gm : Nat} {w r u : Int} {l : List Kp}
end

end Go.Proofs.YtdmfcnjgdicncaaGreat
