/- Digests, part six: copies of bytes. Conditions: the bytes may be read, and are not too many. -/
import Derived.Test.YtgebobjihojljaaShaE
namespace Go.Proofs.Ytgebobjihojljaa
open Go.Eng Go.RowKit

abbrev MB (w : World) (base : Nat) (v : Value) (l : List Int) : Prop := Mine w base t_uint8 1 v l.length (u8s l)
theorem Mine.made0 (w : World) : MB (w.alloc (.cells #[] t_uint8)) w.heap.size (.slice (some ⟨w.heap.size, 0, none⟩) 0 0) [] := World.ownsRow_made w #[] 0 (Nat.le_refl _) (by decide) (by rfl)

theorem CopyBytes_spec {va : Value} {xs : List Int} {w : World} (ha : VL (Value.int .u8) w va xs) (hlen : xs.length ≤ 1048576) :
    Calls Try.prog n_entrepotkit_CopyBytes #[va] w fun e w' => ∃ v, e = .returned v ∧ MB w' w.heap.size v xs ∧ Ext w w' := by
  refine enter1 F_entrepotkit_CopyBytes rfl rfl ?_
  repeat (first | refine o_p rfl rfl rfl ?_ | refine on ?_ | refine sr ?_ | refine ss ?_)
  refine ow_ex rfl (ex_buildSlice (vs := []) (cells := []) rfl rfl rfl rfl (by decide) (fun z hz => by simp at hz; subst hz; rfl)) rfl ?_
  repeat refine o_p rfl rfl rfl ?_
  refine ow_append rfl rfl rfl rfl rfl rfl rfl rfl (Mine.made0 w) (ha.ext (Fr.alloc _ _)) (u8s_one _) (by simp; omega) (by simp) ?_
  intro v' w' own fr
  repeat refine o_p rfl rfl rfl ?_
  refine on (cw_ret (pn_ret rfl rfl ⟨_, rfl, by simpa [MB, u8s] using own, ?_⟩))
  exact Fr.trans' (Fr.alloc _ _) fr (by intro j hj h; simp [Value.ownBlock] at h; omega)

theorem Clone_spec {va : Value} {xs : List Int} {w : World} (ha : VL (Value.int .u8) w va xs) (hlen : xs.length ≤ 1048576) :
    Calls Try.prog n_bytes_Clone #[va] w fun e w' => ∃ v, e = .returned v ∧ MB w' w.heap.size v xs ∧ Ext w w' := by
  obtain ⟨A, c, rfl, hnc, hcm, hz, hcell⟩ := ha.op
  refine enter1 F_bytes_Clone rfl rfl ?_
  repeat (first | refine o_p rfl rfl rfl ?_ | refine on ?_ | refine sr ?_ | refine ss ?_)
  refine o_n rfl rfl rfl ?_
  cases A with
  | none =>
    have h0 : xs = [] := List.eq_nil_of_length_eq_zero (by have := hz rfl; omega)
    subst h0
    refine on (cw_cond_t rfl (sr ?_))
    repeat refine o_p rfl rfl rfl ?_
    exact (ow_nil (pn_then (cw_ret (pn_then_ret (pn_ret rfl rfl ⟨_, rfl, Mine.nil _ _ _ _, Fr.refl _ _⟩)))))
  | some a =>
    refine on (cw_cond_f rfl (cw_skip (pn_then (sr ?_))))
    refine ow_ex rfl (ex_buildSlice (vs := []) (cells := []) rfl rfl rfl rfl (by decide) (fun z hz => by simp at hz; subst hz; rfl)) rfl ?_
    repeat refine o_p rfl rfl rfl ?_
    refine ow_append rfl rfl rfl rfl rfl rfl rfl rfl (Mine.made0 w) (ha.ext (Fr.alloc _ _)) (u8s_one _) (by simp; omega) (by simp) ?_
    intro v' w' own fr
    repeat refine o_p rfl rfl rfl ?_
    refine on (cw_ret (pn_ret rfl rfl ⟨_, rfl, by simpa [MB, u8s] using own, ?_⟩))
    exact Fr.trans' (Fr.alloc _ _) fr (by intro j hj h; simp [Value.ownBlock] at h; omega)
end Go.Proofs.Ytgebobjihojljaa
