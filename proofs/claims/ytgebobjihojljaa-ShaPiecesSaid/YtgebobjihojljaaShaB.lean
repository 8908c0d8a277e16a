/- Digests, part two: a block is taken in. Conditions: the bytes may be read. -/
import Derived.Test.YtgebobjihojljaaShaA
namespace Go.Proofs.Ytgebobjihojljaa
open Go.Eng Go.RowKit

def keyL : List Int := [
  0x428a2f98, 0x71374491, 0xb5c0fbcf, 0xe9b5dba5, 0x3956c25b, 0x59f111f1, 0x923f82a4, 0xab1c5ed5,
  0xd807aa98, 0x12835b01, 0x243185be, 0x550c7dc3, 0x72be5d74, 0x80deb1fe, 0x9bdc06a7, 0xc19bf174,
  0xe49b69c1, 0xefbe4786, 0x0fc19dc6, 0x240ca1cc, 0x2de92c6f, 0x4a7484aa, 0x5cb0a9dc, 0x76f988da,
  0x983e5152, 0xa831c66d, 0xb00327c8, 0xbf597fc7, 0xc6e00bf3, 0xd5a79147, 0x06ca6351, 0x14292967,
  0x27b70a85, 0x2e1b2138, 0x4d2c6dfc, 0x53380d13, 0x650a7354, 0x766a0abb, 0x81c2c92e, 0x92722c85,
  0xa2bfe8a1, 0xa81a664b, 0xc24b8b70, 0xc76c51a3, 0xd192e819, 0xd6990624, 0xf40e3585, 0x106aa070,
  0x19a4c116, 0x1e376c08, 0x2748774c, 0x34b0bcb5, 0x391c0cb3, 0x4ed8aa4a, 0x5b9cca4f, 0x682e6ff3,
  0x748f82ee, 0x78a5636f, 0x84c87814, 0x8cc70208, 0x90befffa, 0xa4506ceb, 0xbef9a3f7, 0xc67178f2]
def beginL : List Int := [0x6a09e667, 0xbb67ae85, 0x3c6ef372, 0xa54ff53a, 0x510e527f, 0x9b05688c, 0x1f83d9ab, 0x5be0cd19]

theorem u32s_one (l : List Int) : ∀ u ∈ u32s l, u.oneCell' = true := by intro u hu; obtain ⟨x, _, rfl⟩ := List.mem_map.1 hu; rfl
theorem u32s_len (l : List Int) : (u32s l).length = l.length := by simp [u32s]
theorem u32s_get (l : List Int) (i : Nat) (h : i < l.length) : (u32s l)[i]? = some (.int .u32 (l.getD i 0)) := by
  simp only [u32s, List.getElem?_map, List.getD_eq_getElem?_getD]
  rw [List.getElem?_eq_getElem h]; rfl
theorem spl_whole (cs vs : List Value) (h : vs.length = cs.length) : spl cs 0 vs = vs := by simp [spl, h]

set_option maxRecDepth 20000 in
theorem keys_spec (w : World) : Calls Try.prog n_sha_keys #[] w fun e w' => e = .returned (.agg (u32s keyL).toArray) ∧ Ext w w' := by
  refine enter0 F_sha_keys rfl rfl ?_
  refine (cw_seq (cw_region ?_))
  refine ow_new rfl rfl rfl rfl ?_
  intro w1 B1 e1 z1
  change Blk w1 w.heap.size t_64_uint32 (u32s (List.replicate 64 0)) at B1
  refine on (sr ?_)
  refine ow_pu (v := .agg ⟨u32s keyL⟩) rfl (pevb_sound (by kernel_rfl)) rfl ?_
  refine ow_eu rfl (eu_storeW (vs := u32s keyL) rfl rfl rfl rfl rfl (u32s_one _) B1 rfl) ?_
  exact (ow_nil (pn_then (cw_ret (pn_retC rfl rfl rfl rfl rfl (B1.setRow (ds := u32s keyL)) ⟨rfl, e1.trans' (Fr.setRow _ _ _) (fun j hj h => by omega)⟩))))
set_option maxRecDepth 20000 in
theorem refkeys_spec (w : World) : Calls Try.prog n_entrepotref02_keys #[] w fun e w' => e = .returned (.agg (u32s keyL).toArray) ∧ Ext w w' := by
  refine enter0 F_entrepotref02_keys rfl rfl ?_
  refine (cw_seq (cw_region ?_))
  refine ow_new rfl rfl rfl rfl ?_
  intro w1 B1 e1 z1
  change Blk w1 w.heap.size t_64_uint32 (u32s (List.replicate 64 0)) at B1
  refine on (sr ?_)
  refine ow_pu (v := .agg ⟨u32s keyL⟩) rfl (pevb_sound (by kernel_rfl)) rfl ?_
  refine ow_eu rfl (eu_storeW (vs := u32s keyL) rfl rfl rfl rfl rfl (u32s_one _) B1 rfl) ?_
  exact (ow_nil (pn_then (cw_ret (pn_retC rfl rfl rfl rfl rfl (B1.setRow (ds := u32s keyL)) ⟨rfl, e1.trans' (Fr.setRow _ _ _) (fun j hj h => by omega)⟩))))
theorem begin_spec (w : World) : Calls Try.prog n_sha_begin #[] w fun e w' => e = .returned (.agg (u32s beginL).toArray) ∧ Ext w w' := by
  refine enter0 F_sha_begin rfl rfl ?_
  refine (cw_seq (cw_region ?_))
  refine ow_new rfl rfl rfl rfl ?_
  intro w1 B1 e1 z1
  change Blk w1 w.heap.size t_sha_words (u32s (List.replicate 8 0)) at B1
  refine on (sr ?_)
  refine ow_pu (v := .agg ⟨u32s beginL⟩) rfl (pevb_sound (by kernel_rfl)) rfl ?_
  refine ow_eu rfl (eu_storeW (vs := u32s beginL) rfl rfl rfl rfl rfl (u32s_one _) B1 rfl) ?_
  exact (ow_nil (pn_then (cw_ret (pn_retC rfl rfl rfl rfl rfl (B1.setRow (ds := u32s beginL)) ⟨rfl, e1.trans' (Fr.setRow _ _ _) (fun j hj h => by omega)⟩))))

/-! ## Rounds -/
structure W8 where
  a : Int
  b : Int
  c : Int
  d : Int
  e : Int
  f : Int
  g : Int
  h : Int
def W8.l (s : W8) : List Int := [s.a, s.b, s.c, s.d, s.e, s.f, s.g, s.h]
def rndX (s : W8) (k x : Int) : Int := add32 (add32 (add32 (add32 s.h (xor32 (xor32 (rotr s.e 6) (rotr s.e 11)) (rotr s.e 25))) (xor32 (and32 s.e s.f) (and32 (cpl .u32 s.e) s.g))) k) x
def rndY (s : W8) : Int := add32 (xor32 (xor32 (rotr s.a 2) (rotr s.a 13)) (rotr s.a 22)) (xor32 (xor32 (and32 s.a s.b) (and32 s.a s.c)) (and32 s.b s.c))
def rnd (s : W8) (k x : Int) : W8 := ⟨add32 (rndX s k x) (rndY s), s.a, s.b, s.c, add32 s.d (rndX s k x), s.e, s.f, s.g⟩
def rnds (s : W8) (K X : List Int) : Nat → W8
  | 0 => s
  | n + 1 => rnd (rnds s K X n) (K.getD n 0) (X.getD n 0)
def upd (A C : List Int) (i : Nat) : List Int := (List.range 8).map fun j => if j < i then add32 (A.getD j 0) (C.getD j 0) else A.getD j 0
theorem upd_len (A C : List Int) (i : Nat) : (upd A C i).length = 8 := by simp [upd]
theorem upd_get (A C : List Int) (i j : Nat) (h : j < 8) : (upd A C i).getD j 0 = if j < i then add32 (A.getD j 0) (C.getD j 0) else A.getD j 0 := by
  rw [List.getD_eq_getElem?_getD, List.getElem?_eq_getElem (by rw [upd_len]; exact h)]; simp [upd]
theorem upd_set (A C : List Int) (i : Nat) (h : i < 8) : (upd A C i).set i (add32 (A.getD i 0) (C.getD i 0)) = upd A C (i + 1) := by
  apply List.ext_getElem
  · simp [upd_len]
  · intro j h1 h2
    rw [List.getElem_set]
    simp only [upd, List.getElem_map, List.getElem_range]
    split
    · rename_i e; subst e; rw [if_pos (by omega)]
    · rename_i e
      by_cases hj : j < i
      · rw [if_pos hj, if_pos (by omega)]
      · rw [if_neg hj, if_neg (by omega)]
theorem upd_zero (A C : List Int) (h : A.length = 8) : upd A C 0 = A := by
  apply List.ext_getElem
  · rw [upd_len, h]
  · intro j h1 h2
    simp [upd, List.getElem?_eq_getElem h2]
def toW (l : List Int) : W8 := ⟨l.getD 0 0, l.getD 1 0, l.getD 2 0, l.getD 3 0, l.getD 4 0, l.getD 5 0, l.getD 6 0, l.getD 7 0⟩
theorem toW_l (l : List Int) (h : l.length = 8) : (toW l).l = l := by
  match l, h with
  | [_, _, _, _, _, _, _, _], _ => rfl
/-- A block is taken in. -/
def blockM (A b : List Int) : List Int := upd A (rnds (toW A) keyL (schedL b 64) 64).l 8
theorem blockM_len (A b : List Int) : (blockM A b).length = 8 := upd_len _ _ _
end Go.Proofs.Ytgebobjihojljaa
