/- Vectors, part six: Less of both packages, and what the laws use besides. Conditions: the vectors may be read, and are not too long. -/
import Derived.Test.YtplkinnaccpomaaVecE
namespace Go.Proofs.Ytplkinnaccpomaa
open Go.Eng Go.RowKit

instance : EqT Try.prog t_api_Dot := ⟨by kernel_rfl⟩
theorem eq_dot (a b c d : Int) (w : World) : (Op.equalIn 10000 t_api_Dot (dotV a b) (dotV c d)).run Try.prog w = .ok (decide (a = c ∧ b = d)) w := by
  have hS : Try.prog.underlying t_api_Dot = some (.struct (Try.prog.fieldsOf t_api_Dot)) := by kernel_rfl
  have hp : Try.prog.stoodInHeld t_api_Dot = false := by kernel_rfl
  have hf : ∃ f g : Field, (Try.prog.fieldsOf t_api_Dot).toList = [f, g] ∧ f.name ≠ "_" ∧ g.name ≠ "_" ∧ f.type = t_int ∧ g.type = t_int ∧ f.offset = 0 ∧ g.offset = 1 :=
    ⟨_, _, rfl, by decide, by decide, rfl, rfl, rfl, rfl⟩
  obtain ⟨f, g, h1, h2, h3, h4, h5, h6, h7⟩ := hf
  have ui : Try.prog.underlying t_int = some (.int .i64) := by kernel_rfl
  rw [show (10000 : Nat) = 9998 + 1 + 1 from rfl, run_equalIn_struct w 9999 t_api_Dot _ _ hS hp, h1]
  have p0 : ∀ (x y : Int), (part t_int #[.int .i64 x, .int .i64 y] 0).run Try.prog w = .ok (.int .i64 x) w := fun x y => by simp [part, isAgg, run_underlying ui]
  have p1 : ∀ (x y : Int), (part t_int #[.int .i64 x, .int .i64 y] 1).run Try.prog w = .ok (.int .i64 y) w := fun x y => by simp [part, isAgg, run_underlying ui]
  have q : ∀ x y : Int, (Op.equalIn 9999 t_int (.int .i64 x) (.int .i64 y)).run Try.prog w = .ok (x == y) w := fun x y => run_equalIn_int w 9998 t_int .i64 .i64 x y ui
  simp only [Op.eqFields, h2, h3, h4, h5, h6, h7, ne_eq, not_false_eq_true, if_true, Sem.run_bind, p0, p1, q, Result.andThen_ok]
  by_cases e1 : a = c <;> by_cases e2 : b = d <;> simp [e1, e2, p1, q]

def cmpI (a b : Int) : Int := if a < b then -1 else if b < a then 1 else 0
def cmpL : List Int → List Int → Int
  | [], [] => 0
  | [], _ :: _ => -1
  | _ :: _, [] => 1
  | x :: xs, y :: ys => if cmpI x y ≠ 0 then cmpI x y else cmpL xs ys

theorem isNaN_spec (a : Int) (w : World) : Calls Try.prog n_cmp_isNaN_int #[.int .i64 a] w fun e w' => e = .returned (.bool false) ∧ w = w' := by
  refine enter1 F_cmp_isNaN_int rfl rfl ?_
  repeat (first | refine o_p rfl rfl rfl ?_ | refine on ?_ | refine sr ?_ | refine ss ?_)
  exact cw_ret (pn_ret rfl rfl ⟨by simp, rfl⟩)

theorem Compare_spec (a b : Int) (w : World) : Calls Try.prog n_cmp_Compare_int #[.int .i64 a, .int .i64 b] w fun e w' => e = .returned (.int .i64 (cmpI a b)) ∧ w = w' := by
  refine enter2 F_cmp_Compare_int rfl rfl ?_
  repeat (first | refine o_p rfl rfl rfl ?_ | refine on ?_ | refine sr ?_ | refine ss ?_)
  refine ow_call rfl (ec_call rfl) rfl ((isNaN_spec a w).mono ?_)
  rintro _ w1 ⟨rfl, rfl⟩; refine ⟨_, rfl, ?_⟩
  repeat (first | refine o_p rfl rfl rfl ?_ | refine on ?_ | refine sr ?_ | refine ss ?_)
  refine ow_call rfl (ec_call rfl) rfl ((isNaN_spec b w).mono ?_)
  rintro _ w1 ⟨rfl, rfl⟩; refine ⟨_, rfl, ?_⟩
  repeat (first | refine o_p rfl rfl rfl ?_ | refine on ?_ | refine sr ?_ | refine ss ?_)
  refine cw_cond_f rfl (cw_skip (pn_then (ss (sr ?_))))
  repeat (first | refine o_p rfl rfl rfl ?_ | refine on ?_ | refine sr ?_ | refine ss ?_)
  refine cw_cond_f rfl (cw_skip (pn_then (ss (sr ?_))))
  repeat (first | refine o_p rfl rfl rfl ?_ | refine on ?_ | refine sr ?_ | refine ss ?_)
  refine cw_if rfl (fun h1 => sr ?_) (fun h1 => cw_skip (pn_then (ss (sr ?_))))
  · repeat (first | refine o_p rfl rfl rfl ?_ | refine on ?_ | refine sr ?_ | refine ss ?_)
    exact cw_ret (pn_then_ret (pn_ret rfl rfl ⟨by simp [cmpI, h1], rfl⟩))
  · repeat (first | refine o_p rfl rfl rfl ?_ | refine on ?_ | refine sr ?_ | refine ss ?_)
    refine cw_if rfl (fun h2 => sr ?_) (fun h2 => cw_skip (pn_then (sr ?_)))
    · repeat (first | refine o_p rfl rfl rfl ?_ | refine on ?_ | refine sr ?_ | refine ss ?_)
      exact cw_ret (pn_then_ret (pn_ret rfl rfl ⟨by simp [cmpI, h1, h2], rfl⟩))
    · repeat (first | refine o_p rfl rfl rfl ?_ | refine on ?_ | refine sr ?_ | refine ss ?_)
      exact cw_ret (pn_ret rfl rfl ⟨by simp [cmpI, h1, h2], rfl⟩)

theorem CompareFunc_spec {va vb : Value} {xs ys : List Int} {w : World} (ha : IL w va xs) (hb : IL w vb ys) (hx : xs.length ≤ 1048576) :
    Calls Try.prog n_slices_CompareFunc_sl_int_sl_int_int_int #[va, vb, .func (.func n_cmp_Compare_int) ⟨[]⟩ ⟨[]⟩] w fun e w' => e = .returned (.int .i64 (cmpL xs ys)) ∧ w = w' := by
  obtain ⟨A, c, rfl, hnc, hcm, hz, hcell⟩ := ha.op
  obtain ⟨A', c', rfl, hnc', hcm', hz', hcell'⟩ := hb.op
  refine enter3 F_slices_CompareFunc_sl_int_sl_int_int_int rfl rfl ?_
  repeat (first | refine o_p rfl rfl rfl ?_ | refine on ?_ | refine sr ?_ | refine ss ?_)
  refine cw_block (cw_loop (G := Nat) (fun k => [(0, .slice A xs.length c), (1, .slice A' ys.length c'), (2, .func (.func n_cmp_Compare_int) ⟨[]⟩ ⟨[]⟩), (11, .slice A xs.length c), (12, .int .i64 xs.length), (13, .int .i64 (k : Int))])
    (fun k W => w = W ∧ k ≤ xs.length ∧ k ≤ ys.length ∧ cmpL xs ys = cmpL (xs.drop k) (ys.drop k)) (fun k => xs.length - k) ?_ ?_)
  · exact ⟨0, ⟨rfl, rfl, rfl, rfl, rfl, rfl, trivial⟩, rfl, Nat.zero_le _, Nat.zero_le _, by simp⟩
  rintro k W ⟨rfl, hk, hk', hJ⟩
  try dsimp only
  repeat (first | refine o_p rfl rfl rfl ?_ | refine on ?_ | refine sr ?_ | refine ss ?_)
  refine cw_seq (cw_if rfl (fun h => ?_) (fun h => ?_))
  · refine (cw_skip (pn_then (cw_seq (cw_block (sr ?_)))))
    obtain ⟨bk, off, rfl, hbk, hc⟩ := hcell k (by omega)
    have hck := hc k (by omega)
    repeat refine o_p rfl rfl rfl ?_
    refine o_ix k rfl rfl rfl (by omega) (by omega) ?_
    refine ow_ex rfl (ex_load rfl rfl rfl hck) rfl ?_
    repeat (first | refine o_p rfl rfl rfl ?_ | refine on ?_ | refine sr ?_ | refine ss ?_)
    refine cw_if rfl (fun h1 => ?_) (fun h1 => ?_)
    · refine sr ?_
      repeat refine o_p rfl rfl rfl ?_
      refine (ow_nil (pn_then (cw_ret (pn_then_ret (pn_block_ret (pn_then_ret (pn_loop_ret (pn_block_ret (pn_then_ret (pn_ret rfl rfl ⟨?_, rfl⟩))))))))))
      rw [hJ, List.drop_eq_getElem_cons (by omega), List.drop_eq_nil_of_le (show ys.length ≤ _ by omega)]
      rfl
    · obtain ⟨bk', off', rfl, hbk', hc'⟩ := hcell' k (by omega)
      have hck' := hc' k (by omega)
      refine cw_skip (pn_then (sr ?_))
      repeat refine o_p rfl rfl rfl ?_
      refine o_ix k rfl rfl rfl (by omega) (by omega) ?_
      refine ow_ex rfl (ex_load rfl rfl rfl hck') rfl ?_
      repeat (first | refine o_p rfl rfl rfl ?_ | refine on ?_ | refine sr ?_ | refine ss ?_)
      refine ow_call rfl (ec_call rfl) rfl ((Compare_spec _ _ _).mono ?_)
      rintro _ w1 ⟨rfl, rfl⟩; refine ⟨_, rfl, ?_⟩
      repeat (first | refine o_p rfl rfl rfl ?_ | refine on ?_ | refine sr ?_ | refine ss ?_)
      have hstep : cmpL xs ys = if cmpI xs[k] ys[k] ≠ 0 then cmpI xs[k] ys[k] else cmpL (xs.drop (k + 1)) (ys.drop (k + 1)) := by
        rw [hJ, List.drop_eq_getElem_cons (l := xs) (by omega), List.drop_eq_getElem_cons (l := ys) (by omega)]
        rfl
      refine cw_cond rfl (fun h2 => ?_) (fun h2 => ?_)
      · refine sr ?_
        repeat refine o_p rfl rfl rfl ?_
        refine (ow_nil (pn_then (cw_ret (pn_block_ret (pn_then_ret (pn_loop_ret (pn_block_ret (pn_then_ret (pn_ret rfl rfl ⟨?_, rfl⟩)))))))))
        rw [hstep, if_pos (by simpa using h2)]
      · refine (cw_skip (pn_block (pn_then (cw_region ?_))))
        refine o_c rfl rfl rfl (by unfold I64; omega) ?_
        repeat refine o_p rfl rfl rfl ?_
        refine (ow_nil (pn_round (k + 1) ?_ ?_ ?_))
        · exact ⟨rfl, rfl, rfl, rfl, rfl, rfl, trivial⟩
        · exact ⟨rfl, by omega, by omega, by rw [hstep, if_neg (by simpa using h2)]⟩
        · show xs.length - (k + 1) < xs.length - k; omega
  · refine (cw_exit (pn_then_exit (pn_loop_exit (pn_block_exit (pn_then (ss (sr ?_)))))))
    obtain rfl : k = xs.length := by omega
    rw [List.drop_length] at hJ
    repeat (first | refine o_p rfl rfl rfl ?_ | refine on ?_ | refine sr ?_ | refine ss ?_)
    refine cw_if rfl (fun h1 => ?_) (fun h1 => ?_)
    · refine sr ?_
      repeat refine o_p rfl rfl rfl ?_
      refine (ow_nil (pn_then (cw_ret (pn_then_ret (pn_ret rfl rfl ⟨?_, rfl⟩)))))
      rw [hJ, List.drop_eq_getElem_cons (l := ys) (by omega)]
      rfl
    · refine cw_skip (pn_then (sr ?_))
      repeat refine o_p rfl rfl rfl ?_
      refine (ow_nil (pn_then (cw_ret (pn_ret rfl rfl ⟨?_, rfl⟩))))
      rw [hJ, List.drop_eq_nil_of_le (show ys.length ≤ _ by omega)]
      rfl

def lessL (ra na : Int) (xs : List Int) (rb nb : Int) (ys : List Int) : Bool :=
  decide (weightL xs < weightL ys ∨ (weightL xs = weightL ys ∧ (ra < rb ∨ (ra = rb ∧ na < nb))))
theorem less_cmp {ra na rb nb : Int} {xs ys : List Int} (h : ¬ (ra = rb ∧ na = nb)) : decide (cmpL [weightL xs, ra, na] [weightL ys, rb, nb] < 0) = lessL ra na xs rb nb ys := by
  unfold lessL
  rw [decide_eq_decide]
  simp only [cmpL, cmpI]
  split <;> (try split) <;> (try split) <;> omega

theorem refLess_spec {va vb : Value} {xs ys : List Int} {ra na rb nb : Int} {w : World} (ha : IL w va xs) (hb : IL w vb ys) (hx : xs.length ≤ 1048576) (hy : ys.length ≤ 1048576) :
    Calls Try.prog n_entrepotref14_Less #[dotV ra na, va, dotV rb nb, vb] w fun e w' => e = .returned (.bool (lessL ra na xs rb nb ys)) ∧ Ext w w' := by
  refine enter4 F_entrepotref14_Less rfl rfl ?_
  refine (cw_seq (cw_region ?_))
  refine ow_ex rfl (ex_box rfl) rfl ?_
  have B : Blk (w.alloc (.cells (dotV ra na).cells t_api_Dot)) w.heap.size t_api_Dot [.int .i64 ra, .int .i64 na] := Blk.new w _ _
  have e1 : Ext w (w.alloc (.cells (dotV ra na).cells t_api_Dot)) := Fr.alloc _ _
  generalize w.alloc (.cells (dotV ra na).cells t_api_Dot) = w1 at *
  refine ow_ex rfl (ex_box rfl) rfl ?_
  have B' : Blk (w1.alloc (.cells (dotV rb nb).cells t_api_Dot)) w1.heap.size t_api_Dot [.int .i64 rb, .int .i64 nb] := Blk.new w1 _ _
  have e2 : Ext w1 (w1.alloc (.cells (dotV rb nb).cells t_api_Dot)) := Fr.alloc _ _
  generalize w1.alloc (.cells (dotV rb nb).cells t_api_Dot) = w2 at *
  repeat (first | refine o_p rfl rfl rfl ?_ | refine on ?_ | refine sr ?_ | refine ss ?_)
  refine ow_call rfl (ec_call rfl) rfl ((refWeight_spec (ha.ext (e1.trans e2)) hx).mono ?_)
  rintro _ w3 ⟨rfl, e3⟩; refine ⟨_, rfl, ?_⟩
  repeat refine o_p rfl rfl rfl ?_
  refine ow_call rfl (ec_call rfl) rfl ((refWeight_spec (hb.ext ((e1.trans e2).trans e3)) hy).mono ?_)
  rintro _ w4 ⟨rfl, e4⟩; refine ⟨_, rfl, ?_⟩
  have e34 := e3.trans e4
  have C := (B.ext e2).ext e34
  have C' := B'.ext e34
  have eE := (e1.trans e2).trans e34
  repeat refine o_p rfl rfl rfl ?_
  refine (ow_nil (pn_then (cw_seq (cw_block (cw_seq (cw_region ?_))))))
  repeat refine o_p rfl rfl rfl ?_
  refine (ow_nil (pn_then (cw_cond rfl (fun h1 => ?_) (fun h1 => ?_))))
  · refine sr ?_
    repeat refine o_p rfl rfl rfl ?_
    refine (ow_nil (pn_then (cw_ret (pn_block_ret (pn_then_ret (pn_ret rfl rfl ⟨?_, eE⟩))))))
    have h1 : ¬ weightL xs = weightL ys := by simpa using h1
    simp [lessL, h1]
  · have h1 : weightL xs = weightL ys := by simpa using h1
    refine sr ?_
    repeat refine o_p rfl rfl rfl ?_
    refine ow_ex rfl (ex_load rfl rfl rfl (C.cell 0)) rfl ?_
    repeat refine o_p rfl rfl rfl ?_
    refine ow_ex rfl (ex_load rfl rfl rfl (C'.cell 0)) rfl ?_
    repeat refine o_p rfl rfl rfl ?_
    refine (ow_nil (pn_then (cw_cond rfl (fun h2 => ?_) (fun h2 => ?_))))
    · refine sr ?_
      repeat refine o_p rfl rfl rfl ?_
      refine ow_ex rfl (ex_load rfl rfl rfl (C.cell 0)) rfl ?_
      repeat refine o_p rfl rfl rfl ?_
      refine ow_ex rfl (ex_load rfl rfl rfl (C'.cell 0)) rfl ?_
      repeat refine o_p rfl rfl rfl ?_
      refine (ow_nil (pn_then (cw_ret (pn_block_ret (pn_then_ret (pn_ret rfl rfl ⟨?_, eE⟩))))))
      have h2 : ¬ ra = rb := by simpa using h2
      simp [lessL, h1, h2]
    · refine (cw_skip (pn_block (pn_then (cw_seq (cw_region ?_)))))
      repeat refine o_p rfl rfl rfl ?_
      refine ow_ex rfl (ex_load rfl rfl rfl (C.cell 1)) rfl ?_
      repeat refine o_p rfl rfl rfl ?_
      refine ow_ex rfl (ex_load rfl rfl rfl (C'.cell 1)) rfl ?_
      repeat refine o_p rfl rfl rfl ?_
      refine (ow_nil (pn_then (cw_ret (pn_ret rfl rfl ⟨?_, eE⟩))))
      have h2 : ra = rb := by simpa using h2
      simp [lessL, h1, h2]

theorem fill3 (a b c : Value) (ha : a.cells.toList = [a]) (hb : b.cells.toList = [b]) (hc : c.cells.toList = [c]) (z : List Value) (hz : z.length = 3 * 1) : fillL (fun k => some (k * 1, 1)) z [(0, a), (1, b), (2, c)] = some [a, b, c] := by
  match z, hz with
  | [x, y, u], _ =>
    have e : ∀ v : Value, v.cells.toList = [v] → v.cells.size = 1 := fun v h => by rw [← Array.length_toList, h]; rfl
    simp [fillL, spl, ha, hb, hc, e a ha, e b hb, e c hc]

theorem Less_spec {va vb : Value} {xs ys : List Int} {ra na rb nb : Int} {w : World} (ha : IL w va xs) (hb : IL w vb ys) :
    Calls Try.prog n_vector_Less #[dotV ra na, va, dotV rb nb, vb] w fun e w' => e = .returned (.bool (lessL ra na xs rb nb ys)) ∧ Ext w w' := by
  refine enter4 F_vector_Less rfl rfl ?_
  refine (cw_seq (cw_region ?_))
  refine ow_ex rfl (ex_box rfl) rfl ?_
  have B : Blk (w.alloc (.cells (dotV ra na).cells t_api_Dot)) w.heap.size t_api_Dot [.int .i64 ra, .int .i64 na] := Blk.new w _ _
  have e1 : Ext w (w.alloc (.cells (dotV ra na).cells t_api_Dot)) := Fr.alloc _ _
  generalize w.alloc (.cells (dotV ra na).cells t_api_Dot) = w1 at *
  refine ow_ex rfl (ex_box rfl) rfl ?_
  have B' : Blk (w1.alloc (.cells (dotV rb nb).cells t_api_Dot)) w1.heap.size t_api_Dot [.int .i64 rb, .int .i64 nb] := Blk.new w1 _ _
  have e2 : Ext w1 (w1.alloc (.cells (dotV rb nb).cells t_api_Dot)) := Fr.alloc _ _
  generalize w1.alloc (.cells (dotV rb nb).cells t_api_Dot) = w2 at *
  have B := B.ext e2
  have e2 := e1.trans e2
  repeat refine o_p rfl rfl rfl ?_
  refine (ow_nil (pn_then (cw_seq (cw_draw flo (fun W' => Ext w2 W') (by decide) (Fr.drew _) ?_))))
  repeat refine d_p rfl rfl rfl rfl ?_
  refine dw_call rfl rfl (ec_call rfl) rfl ((Weight_spec (ha.ext (e2.trans (Fr.drew _)))).mono ?_)
  rintro _ w3 ⟨rfl, e3⟩; refine ⟨_, rfl, (Fr.drew _).trans e3, ?_⟩
  repeat refine d_p rfl rfl rfl rfl ?_
  refine dw_rd rfl rfl (fun W' hW' => ex_load rfl rfl rfl (hW'.cell (B.cell 0))) rfl ?_
  repeat refine d_p rfl rfl rfl rfl ?_
  refine dw_rd rfl rfl (fun W' hW' => ex_load rfl rfl rfl (hW'.cell (B.cell 1))) rfl ?_
  refine dw_ex rfl rfl (ex_buildSlice (vs := [(0, .int .i64 (weightL xs)), (1, .int .i64 ra), (2, .int .i64 na)]) (cells := [.int .i64 (weightL xs), .int .i64 ra, .int .i64 na]) rfl rfl rfl rfl (by decide) (fill3 _ _ _ rfl rfl rfl)) (((Fr.drew _).trans e3).trans (Fr.alloc _ _)) rfl ?_
  have D := Blk.new w3 t_int [.int .i64 (weightL xs), .int .i64 ra, .int .i64 na]
  have e4 : Ext w2 (w3.alloc (.cells [.int .i64 (weightL xs), .int .i64 ra, .int .i64 na].toArray t_int)) := ((Fr.drew _).trans e3).trans (Fr.alloc _ _)
  generalize hw4 : w3.alloc (.cells [.int .i64 (weightL xs), .int .i64 ra, .int .i64 na].toArray t_int) = w4 at *
  repeat refine d_p rfl rfl rfl rfl ?_
  refine (dw_nil (pn_then (cw_seq (cw_draw flo (fun W' => Ext w4 W') (by decide) (Fr.drew _) ?_))))
  repeat refine d_p rfl rfl rfl rfl ?_
  refine dw_call rfl rfl (ec_call rfl) rfl ((Weight_spec (hb.ext ((e2.trans e4).trans (Fr.drew _)))).mono ?_)
  rintro _ w5 ⟨rfl, e5⟩; refine ⟨_, rfl, (Fr.drew _).trans e5, ?_⟩
  repeat refine d_p rfl rfl rfl rfl ?_
  refine dw_rd rfl rfl (fun W' hW' => ex_load rfl rfl rfl (hW'.cell (e4.cell (B'.cell 0)))) rfl ?_
  repeat refine d_p rfl rfl rfl rfl ?_
  refine dw_rd rfl rfl (fun W' hW' => ex_load rfl rfl rfl (hW'.cell (e4.cell (B'.cell 1)))) rfl ?_
  refine dw_ex rfl rfl (ex_buildSlice (vs := [(0, .int .i64 (weightL ys)), (1, .int .i64 rb), (2, .int .i64 nb)]) (cells := [.int .i64 (weightL ys), .int .i64 rb, .int .i64 nb]) rfl rfl rfl rfl (by decide) (fill3 _ _ _ rfl rfl rfl)) (((Fr.drew _).trans e5).trans (Fr.alloc _ _)) rfl ?_
  have D' := Blk.new w5 t_int [.int .i64 (weightL ys), .int .i64 rb, .int .i64 nb]
  have e6 : Ext w4 (w5.alloc (.cells [.int .i64 (weightL ys), .int .i64 rb, .int .i64 nb].toArray t_int)) := ((Fr.drew _).trans e5).trans (Fr.alloc _ _)
  generalize hw6 : w5.alloc (.cells [.int .i64 (weightL ys), .int .i64 rb, .int .i64 nb].toArray t_int) = w6 at *
  repeat refine d_p rfl rfl rfl rfl ?_
  have eE := (e2.trans e4).trans e6
  have C := (B.ext e4).ext e6
  have C' := (B'.ext e4).ext e6
  have x1 : IL w6 (.slice (some ⟨w3.heap.size, 0, none⟩) 3 3) [weightL xs, ra, na] := (D.ext e6).sl (n := 3) (sz := 1) rfl (by decide)
  have x2 : IL w6 (.slice (some ⟨w5.heap.size, 0, none⟩) 3 3) [weightL ys, rb, nb] := D'.sl (n := 3) (sz := 1) rfl (by decide)
  refine (dw_nil (pn_then (cw_seq (cw_region ?_))))
  refine ow_ex rfl (ex_loadN (cs := [.int .i64 ra, .int .i64 na]) rfl rfl rfl rfl (fun j _ => by rw [Nat.zero_add]; exact C.cell j)) rfl ?_
  refine ow_ex rfl (ex_loadN (cs := [.int .i64 rb, .int .i64 nb]) rfl rfl rfl rfl (fun j _ => by rw [Nat.zero_add]; exact C'.cell j)) rfl ?_
  refine ow_pu rfl (pu_neA rfl rfl (eq_dot ra na rb nb)) rfl ?_
  repeat refine o_p rfl rfl rfl ?_
  refine o_split 28 rfl (fun h1 => ?_) (fun h1 => ?_)
  · have h1 : ¬ (ra = rb ∧ na = nb) := by simpa only [Bool.not_eq_true', decide_eq_false_iff_not] using h1
    repeat refine o_p rfl rfl rfl ?_
    refine ow_call rfl (ec_call rfl) rfl ((CompareFunc_spec x1 x2 (by simp)).mono ?_)
    rintro _ w7 ⟨rfl, rfl⟩; refine ⟨_, rfl, ?_⟩
    repeat refine o_p rfl rfl rfl ?_
    rw [less_cmp h1]
    refine o_split 34 rfl (fun h2 => ?_) (fun h2 => ?_)
    · repeat (first | refine o_p rfl rfl rfl ?_ | refine ow_skip rfl rfl ?_)
      refine (ow_nil (pn_then (cw_ret (pn_ret rfl rfl ⟨?_, eE⟩))))
      rw [h2]
    · refine ow_ex rfl (ex_loadN (cs := [.int .i64 ra, .int .i64 na]) rfl rfl rfl rfl (fun j _ => by rw [Nat.zero_add]; exact C.cell j)) rfl ?_
      refine ow_ex rfl (ex_loadN (cs := [.int .i64 rb, .int .i64 nb]) rfl rfl rfl rfl (fun j _ => by rw [Nat.zero_add]; exact C'.cell j)) rfl ?_
      refine ow_pu rfl (pu_eqA rfl rfl (eq_dot ra na rb nb)) rfl ?_
      repeat refine o_p rfl rfl rfl ?_
      rw [decide_eq_false h1]
      repeat (first | refine o_p rfl rfl rfl ?_ | refine ow_skip rfl rfl ?_)
      refine (ow_nil (pn_then (cw_ret (pn_ret rfl rfl ⟨?_, eE⟩))))
      rw [h2]
  · have h1 : ra = rb ∧ na = nb := by simpa using h1
    repeat (first | refine o_p rfl rfl rfl ?_ | refine ow_skip rfl rfl ?_)
    refine ow_ex rfl (ex_loadN (cs := [.int .i64 ra, .int .i64 na]) rfl rfl rfl rfl (fun j _ => by rw [Nat.zero_add]; exact C.cell j)) rfl ?_
    refine ow_ex rfl (ex_loadN (cs := [.int .i64 rb, .int .i64 nb]) rfl rfl rfl rfl (fun j _ => by rw [Nat.zero_add]; exact C'.cell j)) rfl ?_
    refine ow_pu rfl (pu_eqA rfl rfl (eq_dot ra na rb nb)) rfl ?_
    repeat refine o_p rfl rfl rfl ?_
    rw [decide_eq_true h1]
    repeat refine o_p rfl rfl rfl ?_
    refine ow_call rfl (ec_call rfl) rfl ((Weight_spec (ha.ext eE)).mono ?_)
    rintro _ w7 ⟨rfl, e7⟩; refine ⟨_, rfl, ?_⟩
    repeat refine o_p rfl rfl rfl ?_
    refine ow_call rfl (ec_call rfl) rfl ((Weight_spec (hb.ext (eE.trans e7))).mono ?_)
    rintro _ w8 ⟨rfl, e8⟩; refine ⟨_, rfl, ?_⟩
    repeat refine o_p rfl rfl rfl ?_
    refine (ow_nil (pn_then (cw_ret (pn_ret rfl rfl ⟨?_, (eE.trans e7).trans e8⟩))))
    simp [lessL, h1]

/-! ## The laws' own helpers -/
theorem of_spec (v : Value) (w : World) : Calls Try.prog n_entrepotlaw14_of #[v] w fun e w' => e = .returned v ∧ w = w' := by
  refine enter1 F_entrepotlaw14_of rfl rfl ?_
  repeat (first | refine o_p rfl rfl rfl ?_ | refine on ?_ | refine sr ?_ | refine ss ?_)
  exact cw_ret (pn_ret rfl rfl ⟨rfl, rfl⟩)
theorem dot_spec (r n : Int) (w : World) : Calls Try.prog n_entrepotlaw14_dot #[.int .i64 r, .int .i64 n] w fun e w' => e = .returned (dotV r n) ∧ Ext w w' := by
  have hone : ∀ a b : Int, ∀ u ∈ [Value.int .i64 a, .int .i64 b], u.oneCell' = true := by intro a b u hu; simp at hu; rcases hu with rfl | rfl <;> rfl
  refine enter2 F_entrepotlaw14_dot rfl rfl ?_
  refine (cw_seq (cw_region ?_))
  refine ow_ex rfl (ex_alloc rfl) rfl ?_
  have B : Blk (w.alloc (.cells (dotV 0 0).cells t_api_Dot)) w.heap.size t_api_Dot [.int .i64 0, .int .i64 0] := Blk.new w _ _
  have e1 : Ext w (w.alloc (.cells (dotV 0 0).cells t_api_Dot)) := Fr.alloc _ _
  change OW _ _ _ _ _ _ _ _ (w.alloc (.cells (dotV 0 0).cells t_api_Dot))
  generalize w.alloc (.cells (dotV 0 0).cells t_api_Dot) = w1 at *
  repeat (first | refine o_p rfl rfl rfl ?_ | refine on ?_ | refine sr ?_ | refine ss ?_)
  refine o_b rfl rfl rfl ?_
  refine ow_eu rfl (eu_storeB (vs := [.int .i64 r, .int .i64 n]) rfl rfl rfl rfl rfl (hone _ _) B rfl) ?_
  refine (ow_nil (pn_then (cw_ret (pn_retC rfl rfl rfl rfl rfl (B.setRow) ⟨?_, ?_⟩))))
  · simp [spl]
  · exact e1.trans' (Fr.setRow _ _ _) (fun j hj h => by omega)

def pickI (r n : Int) : Int := if n ≤ 0 then 0 else r % n
theorem Pick_spec (r n : Int) (hn : I64 n) (w : World) : Calls Try.prog n_entrepotkit_Pick #[.int .i64 r, .int .i64 n] w fun e w' => e = .returned (.int .i64 (pickI r n)) ∧ w = w' := by
  refine enter2 F_entrepotkit_Pick rfl rfl ?_
  repeat (first | refine o_p rfl rfl rfl ?_ | refine on ?_ | refine sr ?_ | refine ss ?_)
  refine cw_if rfl (fun h => ?_) (fun h => ?_)
  · refine sr ?_
    repeat refine o_p rfl rfl rfl ?_
    exact (ow_nil (pn_then (cw_ret (pn_then_ret (pn_ret rfl rfl ⟨by simp [pickI, h], rfl⟩)))))
  · have e := Int.emod_def r n
    have h0 := Int.emod_nonneg r (show n ≠ 0 by omega)
    have h1 := Int.emod_lt_of_pos r (show 0 < n by omega)
    have ht : r.tmod n = if 0 ≤ r ∨ r % n = 0 then r % n else r % n - n := by
      rw [Int.tmod_eq_emod]
      have hn : ((n.natAbs : Nat) : Int) = n := by omega
      have hd : n ∣ r ↔ r % n = 0 := Int.dvd_iff_emod_eq_zero
      simp only [hd]
      split
      · omega
      · rw [hn]
    refine cw_skip (pn_then (sr ?_))
    repeat refine o_p rfl rfl rfl ?_
    refine o_c rfl rfl rfl (by omega) ?_
    repeat (first | refine o_p rfl rfl rfl ?_ | refine on ?_ | refine sr ?_ | refine ss ?_)
    refine cw_if rfl (fun h2 => ?_) (fun h2 => ?_)
    · refine (cw_region ?_)
      repeat refine o_p rfl rfl rfl ?_
      unfold I64 at hn
      refine o_c rfl rfl rfl (by unfold I64; rw [ht]; split <;> omega) ?_
      repeat (first | refine o_p rfl rfl rfl ?_ | refine on ?_ | refine sr ?_ | refine ss ?_)
      refine cw_ret (pn_ret rfl rfl ⟨?_, rfl⟩)
      rw [ht] at h2 ⊢
      split at h2
      · omega
      · rename_i h3
        rw [if_neg h3, pickI, if_neg h]
        have : r % n - n + n = r % n := by omega
        rw [this]
    · refine cw_skip (pn_then (sr ?_))
      repeat refine o_p rfl rfl rfl ?_
      refine (ow_nil (pn_then (cw_ret (pn_ret rfl rfl ⟨?_, rfl⟩))))
      rw [ht] at h2 ⊢
      split at h2
      · rename_i h3
        rw [if_pos h3, pickI, if_neg h]
      · omega

def wideL (xs : List Int) : Bool := xs.any fun x => decide (1125899906842624 < x)
theorem wide_spec {va : Value} {xs : List Int} {w : World} (ha : IL w va xs) : Calls Try.prog n_entrepotlaw14_wide #[va] w fun e w' => e = .returned (.bool (wideL xs)) ∧ w = w' := by
  obtain ⟨A, c, rfl, hnc, hcm, hz, hcell⟩ := ha.op
  refine enter1 F_entrepotlaw14_wide rfl rfl ?_
  repeat (first | refine o_p rfl rfl rfl ?_ | refine on ?_ | refine sr ?_ | refine ss ?_)
  refine cw_block (cw_loop (G := Nat) (fun k => [(0, .slice A xs.length c), (3, .int .i64 (k : Int))]) (fun k W => w = W ∧ k ≤ xs.length ∧ wideL xs = wideL (xs.drop k)) (fun k => xs.length - k) ?_ ?_)
  · exact ⟨0, ⟨rfl, rfl, trivial⟩, rfl, Nat.zero_le _, by simp⟩
  rintro k W ⟨rfl, hk, hJ⟩
  try dsimp only
  repeat (first | refine o_p rfl rfl rfl ?_ | refine on ?_ | refine sr ?_ | refine ss ?_)
  refine cw_if rfl (fun h => ?_) (fun h => ?_)
  · obtain ⟨bk, off, rfl, hbk, hc⟩ := hcell k (by omega)
    have hck := hc k (by omega)
    have hstep : wideL xs = (decide (1125899906842624 < xs[k]) || wideL (xs.drop (k + 1))) := by
      rw [hJ, List.drop_eq_getElem_cons (l := xs) (by omega)]; rfl
    refine (cw_skip (pn_then (cw_seq (cw_block (sr ?_)))))
    repeat refine o_p rfl rfl rfl ?_
    refine o_ix k rfl rfl rfl (by omega) (by omega) ?_
    refine ow_ex rfl (ex_load rfl rfl rfl hck) rfl ?_
    repeat (first | refine o_p rfl rfl rfl ?_ | refine on ?_ | refine sr ?_ | refine ss ?_)
    refine cw_if rfl (fun h1 => ?_) (fun h1 => ?_)
    · refine sr ?_
      repeat refine o_p rfl rfl rfl ?_
      refine (ow_nil (pn_then (cw_ret (pn_block_ret (pn_then_ret (pn_loop_ret (pn_block_ret (pn_then_ret (pn_ret rfl rfl ⟨?_, rfl⟩)))))))))
      rw [hstep, decide_eq_true h1, Bool.true_or]
    · refine (cw_skip (pn_block (pn_then (cw_region ?_))))
      repeat refine o_p rfl rfl rfl ?_
      refine o_c rfl rfl rfl (by unfold I64; omega) ?_
      repeat refine o_p rfl rfl rfl ?_
      refine (ow_nil (pn_round (k + 1) ?_ ?_ ?_))
      · exact ⟨rfl, rfl, trivial⟩
      · exact ⟨rfl, by omega, by rw [hstep, decide_eq_false h1, Bool.false_or]⟩
      · show xs.length - (k + 1) < xs.length - k; omega
  · refine (cw_exit (pn_then_exit (pn_loop_exit (pn_block_exit (pn_then (sr ?_))))))
    repeat refine o_p rfl rfl rfl ?_
    refine (ow_nil (pn_then (cw_ret (pn_ret rfl rfl ⟨?_, rfl⟩))))
    rw [hJ, List.drop_eq_nil_of_le (show xs.length ≤ _ by omega)]
    rfl
end Go.Proofs.Ytplkinnaccpomaa
