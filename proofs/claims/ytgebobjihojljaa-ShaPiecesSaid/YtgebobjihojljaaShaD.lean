/- Digests, part four: what a hash is; is it none; how long it is. Conditions: the hash is nil, or lies whole in a block of its own. -/
import Derived.Test.YtgebobjihojljaaShaC
namespace Go.Proofs.Ytgebobjihojljaa
open Go.Eng Go.RowKit

/-- A hash's cells. -/
def hashC (a : List Int) (r : Value) (n : Int) (m : Bool) : List Value := u32s a ++ [r, .int .i64 n, .bool m]
theorem hashC_8 (a : List Int) (r : Value) (n : Int) (m : Bool) (h : a.length = 8) : (hashC a r n m)[8]? = some r ∧ (hashC a r n m)[9]? = some (.int .i64 n) ∧ (hashC a r n m)[10]? = some (.bool m) := by
  match a, h with
  | [_, _, _, _, _, _, _, _], _ => exact ⟨rfl, rfl, rfl⟩

theorem none_nil_spec (w : World) : Calls Try.prog n_p_sha_Hash_none #[.pointer none] w fun e w' => e = .returned (.bool true) ∧ w = w' := by
  refine enter1 F_p_sha_Hash_none rfl rfl ?_
  repeat (first | refine o_p rfl rfl rfl ?_ | refine on ?_ | refine sr ?_ | refine ss ?_)
  refine o_n rfl rfl rfl ?_
  repeat (first | refine o_p rfl rfl rfl ?_ | refine ow_skip rfl rfl ?_)
  exact (ow_nil (pn_then (cw_ret (pn_ret rfl rfl ⟨rfl, rfl⟩))))
theorem none_spec {g t : Nat} {a : List Int} {r : Value} {n : Int} {m : Bool} {w : World} (hB : Blk w g t (hashC a r n m)) (ha : a.length = 8) :
    Calls Try.prog n_p_sha_Hash_none #[.pointer (some ⟨g, 0, none⟩)] w fun e w' => e = .returned (.bool (!m)) ∧ w = w' := by
  have h10 := (hB.cell 10).trans (hashC_8 a r n m ha).2.2
  refine enter1 F_p_sha_Hash_none rfl rfl ?_
  repeat (first | refine o_p rfl rfl rfl ?_ | refine on ?_ | refine sr ?_ | refine ss ?_)
  refine o_n rfl rfl rfl ?_
  repeat refine o_p rfl rfl rfl ?_
  refine ow_ex rfl (ex_load rfl rfl rfl (h10)) rfl ?_
  repeat refine o_p rfl rfl rfl ?_
  exact (ow_nil (pn_then (cw_ret (pn_ret rfl rfl ⟨rfl, rfl⟩))))

theorem Len_nil_spec (w : World) : Calls Try.prog n_p_sha_Hash_Len #[.pointer none] w fun e w' => e = .returned (.int .i64 0) ∧ w = w' := by
  refine enter1 F_p_sha_Hash_Len rfl rfl ?_
  repeat (first | refine o_p rfl rfl rfl ?_ | refine on ?_ | refine sr ?_ | refine ss ?_)
  refine ow_call rfl (ec_call rfl) rfl ((none_nil_spec w).mono ?_)
  rintro _ _ ⟨rfl, rfl⟩; refine ⟨_, rfl, ?_⟩
  refine on (cw_cond_t rfl (sr ?_))
  repeat refine o_p rfl rfl rfl ?_
  exact (ow_nil (pn_then (cw_ret (pn_then_ret (pn_ret rfl rfl ⟨rfl, rfl⟩)))))
theorem Len_spec {g t : Nat} {a : List Int} {r : Value} {n : Int} {m : Bool} {w : World} (hB : Blk w g t (hashC a r n m)) (ha : a.length = 8) :
    Calls Try.prog n_p_sha_Hash_Len #[.pointer (some ⟨g, 0, none⟩)] w fun e w' => e = .returned (.int .i64 (if m then n else 0)) ∧ w = w' := by
  have h9 := (hB.cell 9).trans (hashC_8 a r n m ha).2.1
  refine enter1 F_p_sha_Hash_Len rfl rfl ?_
  repeat (first | refine o_p rfl rfl rfl ?_ | refine on ?_ | refine sr ?_ | refine ss ?_)
  refine ow_call rfl (ec_call rfl) rfl ((none_spec hB ha).mono ?_)
  rintro _ _ ⟨rfl, rfl⟩; refine ⟨_, rfl, ?_⟩
  cases m with
  | false =>
    refine on (cw_cond_t rfl (sr ?_))
    repeat refine o_p rfl rfl rfl ?_
    exact (ow_nil (pn_then (cw_ret (pn_then_ret (pn_ret rfl rfl ⟨rfl, rfl⟩)))))
  | true =>
    refine on (cw_cond_f rfl (cw_skip (pn_then (sr ?_))))
    repeat refine o_p rfl rfl rfl ?_
    refine ow_ex rfl (ex_load rfl rfl rfl (h9)) rfl ?_
    repeat refine o_p rfl rfl rfl ?_
    exact (ow_nil (pn_then (cw_ret (pn_ret rfl rfl ⟨rfl, rfl⟩))))

theorem New_spec (w : World) : Calls Try.prog n_sha_New #[] w fun e w' => ∃ g, e = .returned (.pointer (some ⟨g, 0, none⟩)) ∧ w.heap.size ≤ g ∧ Blk w' g t_sha_Hash (hashC beginL (.slice none 0 0) 0 true) ∧ Ext w w' := by
  refine enter0 F_sha_New rfl rfl ?_
  repeat (first | refine o_p rfl rfl rfl ?_ | refine on ?_ | refine sr ?_ | refine ss ?_)
  refine ow_call rfl (ec_call rfl) rfl ((begin_spec w).mono ?_)
  rintro _ w1 ⟨rfl, e1⟩; refine ⟨_, rfl, ?_⟩
  refine ow_pu (v := .agg ⟨hashC beginL (.slice none 0 0) 0 true⟩) rfl (pevb_sound (by kernel_rfl)) rfl ?_
  refine ow_box rfl rfl rfl rfl ?_
  intro w2 B2 e2 z2
  repeat refine o_p rfl rfl rfl ?_
  exact (ow_nil (pn_then (cw_ret (pn_ret rfl rfl ⟨_, rfl, e1.size, B2, e1.trans e2⟩))))
end Go.Proofs.Ytgebobjihojljaa
