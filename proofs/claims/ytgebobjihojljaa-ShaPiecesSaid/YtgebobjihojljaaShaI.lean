/- Digests, part nine: New, and the digest of what was written. Conditions: not too many bytes. -/
import Derived.Test.YtgebobjihojljaaShaH
namespace Go.Proofs.Ytgebobjihojljaa
open Go.Eng Go.RowKit

theorem New_S {b : World} {F : List SP} : SC Try.prog n_sha_New [] b F (fun v F' => ∃ g, v = .pointer (some ⟨g, 0, none⟩) ∧ F' = pt g t_sha_Hash (hashC beginL (.slice none 0 0) 0 true) :: rB (.slice none 0 0) [] :: F) :=
  fun w H => (New_spec w).mono fun _ w' ⟨g, h1, h2, B, x⟩ => ⟨_, _, h1, ⟨g, rfl, rfl⟩, (H.newOat (Fr.refl _ _) (Oat.nil w w.heap.size t_uint8 1)).alloc x B h2⟩

theorem ent_rB {F G : List SP} {v : Value} {n : Nat} {cs : List Value} {l : List Int} (k : Nat) (hk : nth F k = some (row t_uint8 1 v n cs)) (hl : n = l.length) (hc : cs = u8s l) (hG : setF F k (rB v l) = some G) : Ent F G := by
  subst hl; subst hc; exact ent_set k hk (fun _ h => h) hG
theorem vlB {b : World} {F : List SP} {v : Value} {l : List Int} {k : Nat} (hk : nth F k = some (rB v l)) : ∀ w, Sat b F w → VL (Value.int .u8) w v l := fun w H => (H.oat hk).sl
theorem vl1 {b : World} {F : List SP} {g t : Nat} {l : List Int} {n k : Nat} (hn : n = l.length) (hm : n ≤ 67108864) (hk : nth F k = some (pt g t (u8s l))) : ∀ w, Sat b F w → VL (Value.int .u8) w (.slice (some ⟨g, 0, none⟩) n n) l := fun w H => by
  subst hn
  exact (H.blk hk).sl (by simp) hm

theorem u8s_len (l : List Int) : (u8s l).length = l.length := by simp [u8s]
def zeroN (l : List Int) : Nat := (120 - (l.length + 1) % 64) % 64
def lenB (n : Int) (i : Nat) : Int := IntKind.u8.wrap ((IntKind.u64.wrap (IntKind.u64.wrap n * 8)).fdiv (2 ^ (56 - 8 * i)))
def lenL (n : Int) (i : Nat) : List Int := (List.range i).map (lenB n)
def endM (l : List Int) (n : Int) : List Int := l ++ [128] ++ List.replicate (zeroN l) 0 ++ lenL n 8
def idB (a : List Int) (i : Nat) : Int := IntKind.u8.wrap ((a.getD (i / 4) 0).fdiv (2 ^ (24 - 8 * (i % 4))))
def idM (a : List Int) : List Int := (List.range 32).map (idB a)
def idP (a : List Int) (i : Nat) : List Int := (List.range i).map (idB a) ++ List.replicate (32 - i) 0
theorem idP_len (a : List Int) (i : Nat) (h : i ≤ 32) : (idP a i).length = 32 := by simp [idP]; omega
theorem idP_set (a : List Int) (i : Nat) (h : i < 32) : (u8s (idP a i)).set i (.int .u8 (idB a i)) = u8s (idP a (i + 1)) := by
  have e : 32 - i = (32 - (i + 1)) + 1 := by omega
  simp only [u8s, ← List.map_set, idP]
  rw [List.set_append_right _ _ (by simp), e, List.replicate_succ, List.range_succ]
  simp
theorem idP_end (a : List Int) : idP a 32 = idM a := by simp [idP, idM]
theorem endM_len (l : List Int) (n : Int) : (endM l n).length % 64 = 0 ∧ (endM l n).length ≤ l.length + 80 := by
  simp only [endM, lenL, zeroN, List.length_append, List.length_replicate, List.length_map, List.length_range, List.length_cons, List.length_nil]
  omega
def sumA (a l : List Int) (n : Int) : List Int := (absorb (endM l n).length a (endM l n)).1
abbrev idV (l : List Int) : Value := .agg ⟨u8s l⟩
theorem tmod64 (k : Nat) : Int.tmod (k : Int) 64 = ((k % 64 : Nat) : Int) := by
  rw [Int.tmod_eq_emod_of_nonneg (by omega)]; omega
theorem hCw {a : List Int} {r : Value} {n : Int} {m : Bool} (h : a.length = 8) : segO (hashC a r n m) 0 8 = some (u32s a) := by
  match a, h with
  | [_, _, _, _, _, _, _, _], _ => rfl
theorem u32nth {a : List Int} {j : Nat} (h : j < a.length) : nth (u32s a) j = some (.int .u32 (a.getD j 0)) := by rw [nth_eq]; exact u32s_get a j h
theorem stO_ok {cs r : List Value} {o : Nat} {v : Value} (h : o < cs.length) (hr : cs.set o v = r) : stO cs o v = some r := by
  subst hr
  induction cs generalizing o with
  | nil => simp at h
  | cons c cs ih =>
    cases o with
    | zero => rfl
    | succ o => simp only [stO, ih (by simpa using h)]; rfl
theorem segO_all {cs : List Value} {n : Nat} (h : n = cs.length) : segO cs 0 n = some cs := by
  subst h
  induction cs with
  | nil => rfl
  | cons c cs ih => simp only [List.length_cons, segO, ih]

theorem hSumN_S {b : World} {F : List SP} : SC Try.prog n_p_sha_Hash_Sum [.pointer none] b F (fun v F' => v = .tuple ⟨[idV (List.replicate 32 0), .int .i64 1]⟩ ∧ F' = F) := by
  refine enterS F_p_sha_Hash_Sum rfl rfl rfl ?_
  repeat (first | refine sw_seq ?_ | refine sw_region ?_ | refine sw_block ?_ | refine so_nil ?_ | refine sn_then ?_ | refine sw_skip ?_ | refine sw_exit ?_ | refine sw_ret ?_ | refine sn_then_ret ?_ | refine sn_then_exit ?_ | refine sn_block ?_ | refine sn_block_ret ?_ | refine sn_block_exit ?_ | refine sn_block_other rfl ?_ | refine sn_loop_ret ?_ | refine sn_loop_exit ?_ | refine sw_cond_t rfl ?_ | refine sw_cond_f rfl ?_ | refine so_1 rfl ?_ | refine so_2 rfl (by first | exact True.intro | omega | (unfold I64; omega) | (show (0 : Int) ≤ _; omega) | (show _ ≠ _; omega) | (simp; done) | (simp; omega) | (simp only [List.length_append, List.length_map, List.length_cons, List.length_nil, List.length_replicate, List.length_take, List.length_drop] at *; omega)) ?_ | refine so_l 0 rfl rfl rfl ?_ | refine so_l 1 rfl rfl rfl ?_ | refine so_l 2 rfl rfl rfl ?_ | refine so_l 3 rfl rfl rfl ?_ | refine so_l 4 rfl rfl rfl ?_ | refine so_l 5 rfl rfl rfl ?_ | refine so_l 6 rfl rfl rfl ?_ | refine so_l 7 rfl rfl rfl ?_ | refine so_s1 0 rfl rfl rfl rfl ?_ | refine so_s1 1 rfl rfl rfl rfl ?_ | refine so_s1 2 rfl rfl rfl rfl ?_ | refine so_s1 3 rfl rfl rfl rfl ?_ | refine so_s1 4 rfl rfl rfl rfl ?_ | refine so_s1 5 rfl rfl rfl rfl ?_ | refine so_s1 6 rfl rfl rfl rfl ?_ | refine so_s1 7 rfl rfl rfl rfl ?_)
  refine so_new rfl rfl rfl rfl rfl fun gi => ?_
  repeat (first | refine sw_seq ?_ | refine sw_region ?_ | refine sw_block ?_ | refine so_nil ?_ | refine sn_then ?_ | refine sw_skip ?_ | refine sw_exit ?_ | refine sw_ret ?_ | refine sn_then_ret ?_ | refine sn_then_exit ?_ | refine sn_block ?_ | refine sn_block_ret ?_ | refine sn_block_exit ?_ | refine sn_block_other rfl ?_ | refine sn_loop_ret ?_ | refine sn_loop_exit ?_ | refine sw_cond_t rfl ?_ | refine sw_cond_f rfl ?_ | refine so_1 rfl ?_ | refine so_2 rfl (by first | exact True.intro | omega | (unfold I64; omega) | (show (0 : Int) ≤ _; omega) | (show _ ≠ _; omega) | (simp; done) | (simp; omega) | (simp only [List.length_append, List.length_map, List.length_cons, List.length_nil, List.length_replicate, List.length_take, List.length_drop] at *; omega)) ?_ | refine so_l 0 rfl rfl rfl ?_ | refine so_l 1 rfl rfl rfl ?_ | refine so_l 2 rfl rfl rfl ?_ | refine so_l 3 rfl rfl rfl ?_ | refine so_l 4 rfl rfl rfl ?_ | refine so_l 5 rfl rfl rfl ?_ | refine so_l 6 rfl rfl rfl ?_ | refine so_l 7 rfl rfl rfl ?_ | refine so_s1 0 rfl rfl rfl rfl ?_ | refine so_s1 1 rfl rfl rfl rfl ?_ | refine so_s1 2 rfl rfl rfl rfl ?_ | refine so_s1 3 rfl rfl rfl rfl ?_ | refine so_s1 4 rfl rfl rfl rfl ?_ | refine so_s1 5 rfl rfl rfl rfl ?_ | refine so_s1 6 rfl rfl rfl rfl ?_ | refine so_s1 7 rfl rfl rfl rfl ?_)
  refine so_callE rfl rfl rfl (SC.ofEq fun w H => none_nil_spec w) ?_
  repeat (first | refine sw_seq ?_ | refine sw_region ?_ | refine sw_block ?_ | refine so_nil ?_ | refine sn_then ?_ | refine sw_skip ?_ | refine sw_exit ?_ | refine sw_ret ?_ | refine sn_then_ret ?_ | refine sn_then_exit ?_ | refine sn_block ?_ | refine sn_block_ret ?_ | refine sn_block_exit ?_ | refine sn_block_other rfl ?_ | refine sn_loop_ret ?_ | refine sn_loop_exit ?_ | refine sw_cond_t rfl ?_ | refine sw_cond_f rfl ?_ | refine so_1 rfl ?_ | refine so_2 rfl (by first | exact True.intro | omega | (unfold I64; omega) | (show (0 : Int) ≤ _; omega) | (show _ ≠ _; omega) | (simp; done) | (simp; omega) | (simp only [List.length_append, List.length_map, List.length_cons, List.length_nil, List.length_replicate, List.length_take, List.length_drop] at *; omega)) ?_ | refine so_l 0 rfl rfl rfl ?_ | refine so_l 1 rfl rfl rfl ?_ | refine so_l 2 rfl rfl rfl ?_ | refine so_l 3 rfl rfl rfl ?_ | refine so_l 4 rfl rfl rfl ?_ | refine so_l 5 rfl rfl rfl ?_ | refine so_l 6 rfl rfl rfl ?_ | refine so_l 7 rfl rfl rfl ?_ | refine so_s1 0 rfl rfl rfl rfl ?_ | refine so_s1 1 rfl rfl rfl rfl ?_ | refine so_s1 2 rfl rfl rfl rfl ?_ | refine so_s1 3 rfl rfl rfl rfl ?_ | refine so_s1 4 rfl rfl rfl rfl ?_ | refine so_s1 5 rfl rfl rfl rfl ?_ | refine so_s1 6 rfl rfl rfl rfl ?_ | refine so_s1 7 rfl rfl rfl rfl ?_)
  refine sn_ret rfl (.agg 0 rfl rfl rfl rfl rfl (.tmp rfl .nil)) (ent_keep 1 [] rfl rfl) ?_
  exact ⟨rfl, rfl⟩
end Go.Proofs.Ytgebobjihojljaa
