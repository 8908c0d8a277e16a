/- Vectors, part two: package vector's and entrepotref14's functions. Conditions: the vectors may be read, and are not too long. -/
import Derived.Test.YtplkinnaccpomaaVecA
namespace Go.Proofs.Ytplkinnaccpomaa
open Go.Eng Go.RowKit

def pickL (p : Int → Int → Int) (xs ys : List Int) : List Int := (List.range (max xs.length ys.length)).map fun i => p (nn xs i) (nn ys i)
abbrev joinL := pickL max
abbrev meetL := pickL min

/-! ## The closures -/
theorem Join_1_spec (a b : Int) (w : World) : Calls Try.prog n_vector_Join_1 #[.int .i64 a, .int .i64 b] w fun e w' => e = .returned (.int .i64 (max a b)) ∧ w = w' := by
  refine enter2 F_vector_Join_1 rfl rfl ?_
  repeat (first | refine o_p rfl rfl rfl ?_ | refine on ?_ | refine sr ?_ | refine ss ?_)
  exact cw_ret (pn_ret rfl rfl ⟨rfl, rfl⟩)
theorem Meet_1_spec (a b : Int) (w : World) : Calls Try.prog n_vector_Meet_1 #[.int .i64 a, .int .i64 b] w fun e w' => e = .returned (.int .i64 (min a b)) ∧ w = w' := by
  refine enter2 F_vector_Meet_1 rfl rfl ?_
  repeat (first | refine o_p rfl rfl rfl ?_ | refine on ?_ | refine sr ?_ | refine ss ?_)
  exact cw_ret (pn_ret rfl rfl ⟨rfl, rfl⟩)
theorem Leq_1_spec (b : Bool) (x y : Int) (w : World) : Calls Try.prog n_vector_Leq_1 #[.bool b, .int .i64 x, .int .i64 y] w fun e w' => e = .returned (.bool (b && decide (x ≤ y))) ∧ w = w' := by
  refine enter3 F_vector_Leq_1 rfl rfl ?_
  refine (cw_seq (cw_region ?_))
  repeat refine o_p rfl rfl rfl ?_
  refine (ow_nil (pn_then (cw_seq (cw_region ?_))))
  repeat refine o_p rfl rfl rfl ?_
  cases b
  · repeat (first | refine ow_skip rfl rfl ?_ | refine o_p rfl rfl rfl ?_)
    exact (ow_nil (pn_then (cw_ret (pn_ret rfl rfl ⟨rfl, rfl⟩))))
  · repeat (first | refine ow_skip rfl rfl ?_ | refine o_p rfl rfl rfl ?_)
    exact (ow_nil (pn_then (cw_ret (pn_ret rfl rfl ⟨rfl, rfl⟩))))
theorem Same_1_spec (b : Bool) (x y : Int) (w : World) : Calls Try.prog n_vector_Same_1 #[.bool b, .int .i64 x, .int .i64 y] w fun e w' => e = .returned (.bool (b && decide (x = y))) ∧ w = w' := by
  refine enter3 F_vector_Same_1 rfl rfl ?_
  refine (cw_seq (cw_region ?_))
  repeat refine o_p rfl rfl rfl ?_
  refine (ow_nil (pn_then (cw_seq (cw_region ?_))))
  repeat refine o_p rfl rfl rfl ?_
  cases b
  · repeat (first | refine ow_skip rfl rfl ?_ | refine o_p rfl rfl rfl ?_)
    exact (ow_nil (pn_then (cw_ret (pn_ret rfl rfl ⟨rfl, rfl⟩))))
  · repeat (first | refine ow_skip rfl rfl ?_ | refine o_p rfl rfl rfl ?_)
    exact (ow_nil (pn_then (cw_ret (pn_ret rfl rfl ⟨rfl, rfl⟩))))

def capI : Int := 4611686018427387904
theorem Weight_1_spec (n a y : Int) (w : World) (hn : 0 ≤ n ∧ n ≤ capI) (ha : 0 ≤ a) : Calls Try.prog n_vector_Weight_1 #[.int .i64 n, .int .i64 a, .int .i64 y] w fun e w' => e = .returned (.int .i64 (n + min a (capI - n))) ∧ w = w' := by
  unfold capI at *
  refine enter3 F_vector_Weight_1 rfl rfl ?_
  refine (cw_seq (cw_region ?_))
  repeat refine o_p rfl rfl rfl ?_
  refine (ow_nil (pn_then (cw_seq (cw_region ?_))))
  repeat refine o_p rfl rfl rfl ?_
  refine o_c rfl rfl rfl (by unfold I64; omega) ?_
  repeat refine o_p rfl rfl rfl ?_
  refine o_c rfl rfl rfl (by unfold I64; omega) ?_
  repeat refine o_p rfl rfl rfl ?_
  exact (ow_nil (pn_then (cw_ret (pn_ret rfl rfl ⟨rfl, rfl⟩))))

theorem picked_1_spec (p : Int → Int → Int) (g : FuncId) [Bodied Try.prog g] (hg : ∀ a b w, Calls Try.prog g #[.int .i64 a, .int .i64 b] w fun e w' => e = .returned (.int .i64 (p a b)) ∧ w = w')
    {v : Value} {i base bp : Nat} {cs : List Value} {a b : Int} {w : World} (hv : Mine w base t_int 1 v i cs) (hbp : w.cell? ⟨bp, 0, none⟩ = some (.func (.func g) ⟨[]⟩ ⟨[]⟩)) (hi : i + 1 ≤ 67108864) (hbase : base ≤ w.heap.size) :
    Calls Try.prog n_vector_picked_1 #[v, .int .i64 a, .int .i64 b, pbox bp] w fun e w' => ∃ v', e = .returned v' ∧ Mine w' base t_int 1 v' (i + 1) (cs ++ [.int .i64 (p a b)]) ∧ Fr (fun k => base ≤ k) w w' := by
  refine enter4 F_vector_picked_1 rfl rfl ?_
  refine (cw_seq (cw_region ?_))
  repeat refine o_p rfl rfl rfl ?_
  refine (ow_nil (pn_then (cw_seq (cw_region ?_))))
  repeat refine o_p rfl rfl rfl ?_
  refine ow_ex rfl (ex_load rfl rfl rfl hbp) rfl ?_
  repeat refine o_p rfl rfl rfl ?_
  refine ow_call rfl (ec_call rfl) rfl ((hg a b w).mono ?_)
  rintro _ w1 ⟨rfl, rfl⟩; refine ⟨_, rfl, ?_⟩
  refine ow_ex rfl (ex_buildSlice (vs := [(0, .int .i64 (p a b))]) (cells := [.int .i64 (p a b)]) rfl rfl rfl rfl (by decide) (fun z hz => by
    match z, hz with
    | [y], _ => rfl)) rfl ?_
  have B := Blk.new w t_int [.int .i64 (p a b)]
  refine ow_append rfl rfl rfl rfl rfl rfl rfl rfl (Mine.ext hv (Fr.alloc _ _)) (B.sl (n := 1) (sz := 1) rfl (by decide)) (by simp; rfl) hi (by simp; omega) ?_; intro v' w' own fr
  repeat refine o_p rfl rfl rfl ?_
  refine (ow_nil (pn_then (cw_ret (pn_ret rfl rfl ⟨v', rfl, own, ?_⟩))))
  refine (Fr.alloc _ _).trans' (fr.mono fun k _ hk => ?_) (fun j hj h => h)
  exact (Mine.block hv hk).1

theorem picked_spec (p : Int → Int → Int) (g : FuncId) [Bodied Try.prog g] (hg : ∀ a b w, Calls Try.prog g #[.int .i64 a, .int .i64 b] w fun e w' => e = .returned (.int .i64 (p a b)) ∧ w = w')
    {va vb : Value} {xs ys : List Int} {w : World} (ha : IL w va xs) (hb : IL w vb ys) (hx : xs.length ≤ 1048576) (hy : ys.length ≤ 1048576) :
    Calls Try.prog n_vector_picked #[va, vb, .func (.func g) ⟨[]⟩ ⟨[]⟩] w fun e w' => ∃ v, e = .returned v ∧ Mine w' w.heap.size t_int 1 v (pickL p xs ys).length ((pickL p xs ys).map (Value.int .i64)) ∧ Ext w w' := by
  have ca : va.cells = #[va] := by obtain ⟨A, c, rfl, _⟩ := ha.op; rfl
  have cb : vb.cells = #[vb] := by obtain ⟨A, c, rfl, _⟩ := hb.op; rfl
  refine enter3 F_vector_picked rfl rfl ?_
  refine (cw_seq (cw_region ?_))
  refine ow_ex rfl (ex_box rfl) rfl ?_
  repeat refine o_p rfl rfl rfl ?_
  refine (ow_nil (pn_then (cw_seq (cw_region ?_))))
  repeat refine o_p rfl rfl rfl ?_
  refine ow_call rfl (ec_call rfl) rfl (sides_spec.mono ?_)
  rintro _ w1 ⟨rfl, rfl⟩; refine ⟨_, rfl, ?_⟩
  rw [ca, cb]
  have B0 : Blk (w.alloc (.cells (Value.func (.func g) ⟨[]⟩ ⟨[]⟩).cells t_func_int_int_int)) w.heap.size t_func_int_int_int [.func (.func g) ⟨[]⟩ ⟨[]⟩] := Blk.new w _ _
  generalize hw0 : w.alloc (.cells (Value.func (.func g) ⟨[]⟩ ⟨[]⟩).cells t_func_int_int_int) = w0 at *
  have e0 : Ext w w0 := by rw [← hw0]; exact Fr.alloc _ _
  have z0 : w0.heap.size = w.heap.size + 1 := by rw [← hw0]; simp
  have B1 : Blk (w0.alloc (.cells #[va] t_sl_int)) w0.heap.size t_sl_int [va] := Blk.new w0 _ [va]
  generalize hw1 : w0.alloc (.cells #[va] t_sl_int) = w1 at *
  have e1 : Ext w0 w1 := by rw [← hw1]; exact Fr.alloc _ _
  have z1 : w1.heap.size = w0.heap.size + 1 := by rw [← hw1]; simp
  have B2 : Blk (w1.alloc (.cells #[vb] t_sl_int)) w1.heap.size t_sl_int [vb] := Blk.new w1 _ [vb]
  generalize hw2 : w1.alloc (.cells #[vb] t_sl_int) = w2 at *
  have e2 : Ext w1 w2 := by rw [← hw2]; exact Fr.alloc _ _
  have z2 : w2.heap.size = w1.heap.size + 1 := by rw [← hw2]; simp
  have eE : Ext w w2 := (e0.trans e1).trans e2
  repeat refine o_p rfl rfl rfl ?_
  rw [z1] at B2
  have hlen : (pickL p xs ys).length = max xs.length ys.length := by simp [pickL]
  have Bf := (B0.ext e1).ext e2
  refine ow_call rfl (ec_call rfl) rfl ((fold_sl_int_spec (fun i v W => Blk W w.heap.size t_func_int_int_int [.func (.func g) ⟨[]⟩ ⟨[]⟩] ∧ Mine W (w2.heap.size + 4) t_int 1 v i (((pickL p xs ys).take i).map (Value.int .i64)))
    n_vector_picked_1 [pbox w.heap.size] (.slice none 0 0) ((B1.ext e2).cell 0) (B2.cell 0) (ha.ext eE) (hb.ext eE) ⟨Bf, by simpa using Mine.nil _ _ _ _⟩ ?_ ?_ ?_).mono ?_)
  · rintro i v W ⟨_, hI⟩
    rcases hI.2 with ⟨rfl, _⟩ | ⟨_, _, _, rfl, _⟩ <;> rfl
  · rintro i v W W' S ⟨hB, hI⟩ hf hS
    refine ⟨hB.fr hf (fun h => by have := hS _ h; omega), Mine.fr hI hf (fun k hk hs => ?_)⟩
    have h1 := hS k hs
    have h2 := (Mine.block hI hk).1
    omega
  · rintro i v W hi ⟨hB, hI⟩ hE hz
    refine (picked_1_spec p g hg hI (hB.cell 0) (by omega) (by omega)).mono ?_
    rintro e W' ⟨v', rfl, hI', f⟩
    refine ⟨v', rfl, ⟨hB.fr f (by omega), ?_⟩, f⟩
    have hi' : i < (pickL p xs ys).length := by omega
    rw [List.take_succ_eq_append_getElem hi']
    have : (pickL p xs ys)[i] = p (nn xs i) (nn ys i) := by simp [pickL]
    rw [List.map_append, List.map_singleton, this]
    exact hI'
  · rintro _ w3 ⟨v, rfl, ⟨hB, hI⟩, hE⟩
    refine ⟨_, rfl, ?_⟩
    repeat refine o_p rfl rfl rfl ?_
    refine (ow_nil (pn_then (cw_ret (pn_ret rfl rfl ⟨v, rfl, ?_, eE.trans hE⟩))))
    rw [← hlen, List.take_length] at hI
    exact Mine.weaken hI (by omega)

theorem Join_spec {va vb : Value} {xs ys : List Int} {w : World} (ha : IL w va xs) (hb : IL w vb ys) (hx : xs.length ≤ 1048576) (hy : ys.length ≤ 1048576) :
    Calls Try.prog n_vector_Join #[va, vb] w fun e w' => ∃ v, e = .returned v ∧ Mine w' w.heap.size t_int 1 v (joinL xs ys).length ((joinL xs ys).map (Value.int .i64)) ∧ Ext w w' := by
  refine enter2 F_vector_Join rfl rfl ?_
  repeat (first | refine o_p rfl rfl rfl ?_ | refine on ?_ | refine sr ?_ | refine ss ?_)
  refine ow_call rfl (ec_call rfl) rfl ((picked_spec max n_vector_Join_1 Join_1_spec ha hb hx hy).mono ?_)
  rintro _ w1 ⟨v, rfl, hm, hE⟩; refine ⟨_, rfl, ?_⟩
  repeat (first | refine o_p rfl rfl rfl ?_ | refine on ?_ | refine sr ?_ | refine ss ?_)
  exact cw_ret (pn_ret rfl rfl ⟨v, rfl, hm, hE⟩)
theorem Meet_spec {va vb : Value} {xs ys : List Int} {w : World} (ha : IL w va xs) (hb : IL w vb ys) (hx : xs.length ≤ 1048576) (hy : ys.length ≤ 1048576) :
    Calls Try.prog n_vector_Meet #[va, vb] w fun e w' => ∃ v, e = .returned v ∧ Mine w' w.heap.size t_int 1 v (meetL xs ys).length ((meetL xs ys).map (Value.int .i64)) ∧ Ext w w' := by
  refine enter2 F_vector_Meet rfl rfl ?_
  repeat (first | refine o_p rfl rfl rfl ?_ | refine on ?_ | refine sr ?_ | refine ss ?_)
  refine ow_call rfl (ec_call rfl) rfl ((picked_spec min n_vector_Meet_1 Meet_1_spec ha hb hx hy).mono ?_)
  rintro _ w1 ⟨v, rfl, hm, hE⟩; refine ⟨_, rfl, ?_⟩
  repeat (first | refine o_p rfl rfl rfl ?_ | refine on ?_ | refine sr ?_ | refine ss ?_)
  exact cw_ret (pn_ret rfl rfl ⟨v, rfl, hm, hE⟩)
end Go.Proofs.Ytplkinnaccpomaa
