/- What the helpers on lists of integers do: two lists are the same; a list is copied; a list is written over. Conditions: the lists may be read. -/
import Derived.Test.YtplkinnaccpomaaTT
namespace Go.Proofs.Ytplkinnaccpomaa
open Go.Eng Go.RowKit

theorem take_step {α : Type} [DecidableEq α] {xs ys : List α} {k : Nat} (h1 : k < xs.length) (h2 : k < ys.length) (hl : xs.length = ys.length) (ht : xs.take k = ys.take k) :
    decide (xs[k] = ys[k]) = decide (xs.length = ys.length ∧ xs.take (k + 1) = ys.take (k + 1)) := by
  have e1 := List.take_succ_eq_append_getElem h1
  have e2 := List.take_succ_eq_append_getElem h2
  rw [e1, e2, ht]
  simp only [List.append_cancel_left_eq, List.cons.injEq, and_true, hl, true_and]

theorem SameInts_spec {va vb : Value} {xs ys : List Int} {w : World} (ha : IL w va xs) (hb : IL w vb ys) :
    Calls Try.prog n_entrepotkit_SameInts #[va, vb] w fun e w' => e = .returned (.bool (decide (xs = ys))) ∧ Ext w w' := by
  obtain ⟨A, c, rfl, hnc, hcm, hz, hcell⟩ := ha.op
  obtain ⟨A', c', rfl, hnc', hcm', hz', hcell'⟩ := hb.op
  refine enter2 F_entrepotkit_SameInts rfl rfl ?_
  repeat (first | refine o_p rfl rfl rfl ?_ | refine on ?_ | refine sr ?_ | refine ss ?_)
  refine cw_block (cw_loop (G := Nat × Bool) (fun g => [(0, .slice A xs.length c), (1, .slice A' ys.length c'), (5, .bool g.2), (6, .int .i64 (g.1 : Int))])
    (fun g W => Ext w W ∧ g.1 ≤ xs.length ∧ g.2 = decide (xs.length = ys.length ∧ xs.take g.1 = ys.take g.1)) (fun g => xs.length - g.1) ?_ ?_)
  · exact ⟨(0, decide ((xs.length : Int) = ys.length)), ⟨rfl, rfl, rfl, rfl, trivial⟩, Fr.refl _ _, Nat.zero_le _, by simp; omega⟩
  rintro ⟨k, b⟩ W ⟨hE, hk, hb0⟩
  dsimp only at hk hb0 ⊢
  repeat (first | refine o_p rfl rfl rfl ?_ | refine on ?_ | refine sr ?_ | refine ss ?_)
  refine o_split 13 rfl (fun h1 => ?_) (fun h1 => ?_)
  · repeat refine o_p rfl rfl rfl ?_
    rw [h1] at hb0
    have hb1 := of_decide_eq_true hb0.symm
    refine on (cw_if rfl (fun h2 => cw_skip (pn_then (cw_seq (cw_block ?_)))) (fun h2 => cw_exit (pn_then_exit (pn_loop_exit (pn_block_exit (pn_then ?_))))))
    · obtain ⟨bk, off, rfl, hbk, hc⟩ := hcell k (by omega)
      obtain ⟨bk', off', rfl, hbk', hc'⟩ := hcell' k (by omega)
      have hck := hc k (by omega)
      have hck' := hc' k (by omega)
      refine cw_draw flo (fun W' => Ext w W') (by decide) (hE.trans (Fr.drew _)) ?_
      repeat refine d_p rfl rfl rfl rfl ?_
      refine d_ix k rfl rfl rfl rfl rfl (by omega) ?_
      refine dw_rd rfl rfl (fun W' hW' => ex_load rfl rfl rfl (hW'.cell hck)) rfl ?_
      repeat refine d_p rfl rfl rfl rfl ?_
      refine d_ix k rfl rfl rfl rfl rfl (by omega) ?_
      refine dw_rd rfl rfl (fun W' hW' => ex_load rfl rfl rfl (hW'.cell hck')) rfl ?_
      repeat refine d_p rfl rfl rfl rfl ?_
      refine dw_nil (pn_block (pn_then (cw_region ?_)))
      refine o_p rfl rfl rfl ?_
      refine o_c rfl rfl rfl (by unfold I64; omega) ?_
      repeat refine o_p rfl rfl rfl ?_
      refine ow_nil (pn_round (k + 1, decide (xs[k] = ys[k])) ?_ ?_ ?_)
      · exact ⟨rfl, rfl, rfl, rfl, trivial⟩
      · exact ⟨hE.trans (Fr.drew _), by simp only; omega, take_step (by omega) (by omega) hb1.1 hb1.2⟩
      · simp only; omega
    · repeat (first | refine o_p rfl rfl rfl ?_ | refine on ?_ | refine sr ?_ | refine ss ?_)
      refine cw_ret (pn_ret rfl rfl ⟨?_, hE⟩)
      obtain rfl : k = xs.length := by omega
      have h3 := hb1.2
      rw [List.take_of_length_le (Nat.le_refl _), List.take_of_length_le (by omega)] at h3
      rw [h1, decide_eq_true h3]
  · repeat refine ow_skip rfl rfl ?_
    repeat refine o_p rfl rfl rfl ?_
    refine on (cw_cond_f rfl (cw_exit (pn_then_exit (pn_loop_exit (pn_block_exit (pn_then ?_))))))
    repeat (first | refine o_p rfl rfl rfl ?_ | refine on ?_ | refine sr ?_ | refine ss ?_)
    refine cw_ret (pn_ret rfl rfl ⟨?_, hE⟩)
    rw [h1] at hb0
    have h3 := of_decide_eq_false hb0.symm
    rw [h1, decide_eq_false (fun e => h3 (by subst e; simp))]

theorem ints_one {xs : List Int} : ∀ u ∈ xs.map (Value.int .i64), u.oneCell' = true := by
  intro u hu
  obtain ⟨x, _, rfl⟩ := List.mem_map.1 hu
  rfl

/-- A copy: new memory. -/
theorem CopyInts_spec {va : Value} {xs : List Int} {w : World} (ha : IL w va xs) (hlen : xs.length ≤ 1048576) :
    Calls Try.prog n_entrepotkit_CopyInts #[va] w fun e w' => ∃ v, e = .returned v ∧ Mine w' w.heap.size t_int 1 v xs.length (xs.map (Value.int .i64)) ∧ Ext w w' := by
  refine enter1 F_entrepotkit_CopyInts rfl rfl ?_
  repeat (first | refine o_p rfl rfl rfl ?_ | refine on ?_ | refine sr ?_ | refine ss ?_)
  refine ow_ex rfl (ex_buildSlice (vs := []) (cells := []) rfl rfl rfl rfl (by decide) (fun z hz => by simp at hz; subst hz; rfl)) rfl ?_
  refine o_p rfl rfl rfl ?_
  have own0 : Mine (w.alloc (.cells #[] t_int)) w.heap.size t_int 1 (.slice (some ⟨w.heap.size, 0, none⟩) 0 0) 0 [] := World.ownsRow_made w #[] 0 (Nat.le_refl _) (by decide) (by rfl)
  refine ow_append rfl rfl rfl rfl rfl rfl rfl rfl own0 (ha.ext (Fr.alloc _ _)) ints_one (by omega) (by simp) ?_
  intro v' w' own fr
  refine o_p rfl rfl rfl ?_
  refine on (cw_ret (pn_ret rfl rfl ⟨_, rfl, by simpa using own, ?_⟩))
  exact Fr.trans' (Fr.alloc _ _) fr (by intro j hj h; simp [Value.ownBlock] at h; omega)

/-- What the call owns is written over: nothing else turns. -/
theorem OverInts_spec {va : Value} {n base : Nat} {cs : List Value} {w : World} (ha : Mine w base t_int 1 va n cs) :
    Calls Try.prog n_entrepotkit_OverInts #[va] w fun e w' => (∃ v, e = .returned v) ∧ Fr (fun k => va.ownBlock = some k) w w' := by
  have hf : ∃ A c, va = .slice A n c ∧ n ≤ 9223372036854775807 ∧ ∀ i : Nat, i < n → ∃ g cur, A = some ⟨g, 0, none⟩ ∧ w.heap[g]? = some (.cells cur t_int (0, 0)) ∧ n ≤ cur.size := by
    rcases ha.2 with ⟨rfl, rfl⟩ | ⟨g, cap, cur, rfl, hb, hh, hn, hc, hcur, htake⟩
    · exact ⟨none, 0, rfl, by omega, fun i hi => by omega⟩
    · exact ⟨_, cap, rfl, by unfold maxLen at hc; omega, fun i hi => ⟨g, cur, rfl, hh, by omega⟩⟩
  obtain ⟨A, c, rfl, hn, hA⟩ := hf
  refine enter1 F_entrepotkit_OverInts rfl rfl ?_
  repeat (first | refine o_p rfl rfl rfl ?_ | refine on ?_ | refine sr ?_ | refine ss ?_)
  refine cw_block (cw_loop (G := Nat) (fun g => [(0, .slice A n c), (2, .int .i64 (g : Int))])
    (fun k W => k ≤ n ∧ Fr (fun j => Value.ownBlock (.slice A n c) = some j) w W ∧ ∀ i : Nat, i < n → ∃ g cur, A = some ⟨g, 0, none⟩ ∧ W.heap[g]? = some (.cells cur t_int (0, 0)) ∧ n ≤ cur.size) (fun k => n - k) ?_ ?_)
  · exact ⟨0, ⟨rfl, rfl, trivial⟩, Nat.zero_le _, Fr.refl _ _, hA⟩
  rintro k W ⟨hk, hE, hJ⟩
  try dsimp only
  repeat (first | refine o_p rfl rfl rfl ?_ | refine on ?_ | refine sr ?_ | refine ss ?_)
  refine cw_if rfl (fun h => ?_) (fun h => ?_)  -- IF t6
  · obtain ⟨g, cur, rfl, hh, hcur⟩ := hJ k (by omega)
    have hcell := cell_of_row W g k cur t_int (0, 0) hh
    have hkc : k < cur.size := by omega
    obtain ⟨u, hu⟩ : ∃ u, cur[k]? = some u := ⟨_, Array.getElem?_eq_getElem hkc⟩
    rw [hu] at hcell
    have hfr : W.frozen? ⟨g, k, none⟩ = false := frozen_of_row W g k cur t_int hh
    have h0 : 0 + k = k := Nat.zero_add k
    rw [← h0] at hcell hfr
    refine cw_skip (pn_then (cw_seq (cw_block (cw_region ?_))))
    repeat refine o_p rfl rfl rfl ?_
    refine o_ix k rfl rfl rfl (by omega) (by omega) ?_
    refine ow_eu rfl (eu_store rfl rfl rfl rfl rfl hcell hfr) ?_
    refine ow_nil (pn_block (pn_then (cw_region ?_)))
    repeat refine o_p rfl rfl rfl ?_
    refine o_c rfl rfl rfl (by unfold I64; omega) ?_
    repeat refine o_p rfl rfl rfl ?_
    refine ow_nil (pn_round (k + 1) ?_ ?_ ?_)
    · exact ⟨rfl, rfl, trivial⟩
    · refine ⟨by omega, hE.trans' (Fr.setCell _ _ _) (fun j _ hj => by subst hj; rfl), fun i hi => ⟨g, _, rfl, heap_setCell_same _ _ _ _ _ _ hh, ?_⟩⟩
      simpa using hcur
    · show n - (k + 1) < n - k; omega
  · exact cw_exit (pn_then_exit (pn_loop_exit (pn_block_exit (pn_end0 rfl ⟨⟨_, rfl⟩, hE⟩))))

end Go.Proofs.Ytplkinnaccpomaa
