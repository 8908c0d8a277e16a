/- Digests, part one: words of 32 bits; how a block's 64 words are spread. Conditions: the bytes may be read. -/
import Derived.Test.YtmeiadgpglpelaaGreatK4
import Derived.Test.YtmeiadgpglpelaaGreatK2
import Derived.Test.YtmeiadgpglpelaaGreatK3
namespace Go.Proofs.YtmeiadgpglpelaaGreat
open Go.Eng Go.RowKit

/-! ## Words -/
def or32 (a b : Int) : Int := bitv .or .u32 a b
def xor32 (a b : Int) : Int := bitv .xor .u32 a b
def and32 (a b : Int) : Int := bitv .and .u32 a b
def add32 (a b : Int) : Int := IntKind.u32.wrap (a + b)
def shl32 (a : Int) (n : Nat) : Int := IntKind.u32.wrap (a * 2 ^ n)
def shr32 (a : Int) (n : Nat) : Int := a.fdiv (2 ^ n)
def rotr (a : Int) (n : Nat) : Int := or32 (shl32 a (32 - n)) (shr32 a n)
theorem rot_amount : ∀ n : Fin 32, 1 ≤ n.val → bitv .and .u64 (IntKind.u64.wrap (IntKind.i64.wrap (0 - (n.val : Int)))) 31 = ((32 - n.val : Nat) : Int) := by decide +kernel
theorem rot_back : ∀ n : Fin 32, 1 ≤ n.val → IntKind.u64.wrap (32 - ((32 - n.val : Nat) : Int)) = (n.val : Int) := by decide +kernel

theorem RotateLeft32_spec (x : Int) (n : Nat) (h1 : 1 ≤ n) (h2 : n < 32) (w : World) :
    Calls Tryz.prog n_math_bits_RotateLeft32 #[.int .u32 x, .int .i64 (IntKind.i64.wrap (0 - (n : Int)))] w fun e w' => e = .returned (.int .u32 (rotr x n)) ∧ w = w' := by
  have ha := rot_amount ⟨n, h2⟩ h1
  have hb := rot_back ⟨n, h2⟩ h1
  dsimp only at ha hb
  refine enter2 F_math_bits_RotateLeft32 rfl rfl ?_
  (refine sr ?_; refine o_p rfl rfl rfl ?_; refine on ?_; refine sr ?_; (iterate 4 refine o_p rfl rfl rfl ?_); refine on ?_; refine sr ?_; (iterate 2 refine o_p rfl rfl rfl ?_))
  rw [ha]
  skip
  refine o_c rfl rfl rfl (by omega) ?_
  ((iterate 3 refine o_p rfl rfl rfl ?_))
  rw [hb]
  refine o_c rfl rfl rfl (by omega) ?_
  ((iterate 2 refine o_p rfl rfl rfl ?_); refine on ?_)
  refine cw_ret (pn_ret rfl rfl ⟨?_, rfl⟩)
  have e1 : min ((32 - n : Nat) : Int).toNat 32 = 32 - n := by omega
  have e2 : min (n : Int).toNat 32 = n := by omega
  simp only [rotr, or32, shl32, shr32, IntKind.bits, e1, e2]

theorem turned_spec (x : Int) (n : Nat) (h1 : 1 ≤ n) (h2 : n < 32) (w : World) :
    Calls Tryz.prog n_sha_turned #[.int .u32 x, .int .i64 (n : Int)] w fun e w' => e = .returned (.int .u32 (rotr x n)) ∧ w = w' := by
  refine enter2 F_sha_turned rfl rfl ?_
  (refine sr ?_; refine o_p rfl rfl rfl ?_; refine on ?_; refine sr ?_; (iterate 3 refine o_p rfl rfl rfl ?_))
  refine ow_call rfl (ec_call rfl) rfl ((RotateLeft32_spec x n h1 h2 w).mono ?_)
  rintro _ _ ⟨rfl, rfl⟩; refine ⟨_, rfl, ?_⟩
  (refine o_p rfl rfl rfl ?_; refine on ?_)
  exact cw_ret (pn_ret rfl rfl ⟨rfl, rfl⟩)

/-! ## A block's words -/
def byteL (b : List Int) (i : Nat) : Int := b.getD i 0
def packW (b : List Int) (i : Nat) : Int :=
  or32 (or32 (or32 (shl32 (IntKind.u32.wrap (byteL b (4 * i))) 24) (shl32 (IntKind.u32.wrap (byteL b (4 * i + 1))) 16)) (shl32 (IntKind.u32.wrap (byteL b (4 * i + 2))) 8)) (IntKind.u32.wrap (byteL b (4 * i + 3)))
def sig0 (x : Int) : Int := xor32 (xor32 (rotr x 7) (rotr x 18)) (shr32 x 3)
def sig1 (x : Int) : Int := xor32 (xor32 (rotr x 17) (rotr x 19)) (shr32 x 10)
def wNext (b W : List Int) (i : Nat) : Int :=
  if i < 16 then packW b i else add32 (add32 (add32 (W.getD (i - 16) 0) (sig0 (W.getD (i - 15) 0))) (W.getD (i - 7) 0)) (sig1 (W.getD (i - 2) 0))
def schedL (b : List Int) : Nat → List Int
  | 0 => []
  | i + 1 => schedL b i ++ [wNext b (schedL b i) i]
theorem sched_len (b : List Int) (i : Nat) : (schedL b i).length = i := by
  induction i with
  | zero => rfl
  | succ i ih => simp [schedL, ih]
def u32s (l : List Int) : List Value := l.map (Value.int .u32)
def wCells (b : List Int) (i : Nat) : List Value := u32s (schedL b i) ++ List.replicate (64 - i) (.int .u32 0)
theorem wCells_len (b : List Int) (i : Nat) (h : i ≤ 64) : (wCells b i).length = 64 := by simp [wCells, u32s, sched_len]; omega
theorem wCells_get (b : List Int) (i j : Nat) (h : j < i) : (wCells b i)[j]? = some (.int .u32 ((schedL b i).getD j 0)) := by
  have hl := sched_len b i
  rw [wCells, List.getElem?_append_left (by simp [u32s, hl]; omega)]
  simp only [u32s, List.getElem?_map, List.getD_eq_getElem?_getD]
  rw [List.getElem?_eq_getElem (by omega)]
  rfl
theorem wCells_set (b : List Int) (i : Nat) (h : i < 64) : (wCells b i).set i (.int .u32 (wNext b (schedL b i) i)) = wCells b (i + 1) := by
  have hl := sched_len b i
  unfold wCells
  rw [List.set_append_right _ _ (by simp [u32s, hl])]
  have e : 64 - i = (64 - (i + 1)) + 1 := by omega
  rw [e, List.replicate_succ]
  simp [u32s, schedL, hl]

theorem spread_spec {vb : Value} {b : List Int} {w : World} (hb : VL (Value.int .u8) w vb b) (hl : 64 ≤ b.length) :
    Calls Tryz.prog n_sha_spread #[vb] w fun e w' => e = .returned (.agg (u32s (schedL b 64)).toArray) ∧ Ext w w' := by
  obtain ⟨A, c, rfl, hnc, hcm, hz, hcell⟩ := hb.op
  refine enter1 F_sha_spread rfl rfl ?_
  refine (cw_seq (cw_region ?_))
  refine ow_new rfl rfl rfl rfl ?_
  intro w1 B1 e1 z1
  change Blk w1 w.heap.size t_64_uint32 (wCells b 0) at B1
  (refine on ?_; refine ss ?_; refine sr ?_; refine o_p rfl rfl rfl ?_; refine on ?_)
  refine cw_block (cw_loop (G := Nat) (fun i => [(0, .slice A b.length c), (2, .pointer (some ⟨w.heap.size, 0, none⟩)), (6, .int .i64 (i : Int))]) (fun i W => Ext w W ∧ Blk W w.heap.size t_64_uint32 (wCells b i) ∧ i ≤ 64) (fun i => 64 - i) ?_ ?_)
  · exact ⟨0, ⟨rfl, rfl, rfl, trivial⟩, e1, B1, by omega⟩
  rintro i W ⟨hE, B, hi⟩
  try dsimp only
  (refine sr ?_; refine o_p rfl rfl rfl ?_; refine on ?_)
  refine (cw_seq (cw_if rfl (fun h => ?_) (fun h => ?_)))
  · obtain ⟨bk, off, rfl, hbk, hc⟩ := hcell 0 (by omega)
    have hE' : Ext w W.drew := hE.trans (Fr.drew _)
    have hlen := wCells_len b i (by omega)
    refine (cw_skip (pn_then (cw_seq (cw_block (cw_seq (cw_region ?_))))))
    ((iterate 2 refine o_p rfl rfl rfl ?_); refine on ?_; refine ss ?_; refine sr ?_; (iterate 2 refine o_p rfl rfl rfl ?_); refine on ?_)
    have h0 : ∀ j : Nat, 0 + j = j := fun j => Nat.zero_add j
    have hex : ∃ u, (wCells b i)[i]? = some u := ⟨_, List.getElem?_eq_getElem (by omega)⟩
    obtain ⟨u, hu⟩ := hex
    have hst : ∀ W', Blk W' w.heap.size t_64_uint32 (wCells b i) → W'.cell? ⟨w.heap.size, 0 + i, none⟩ = some u ∧ W'.frozen? ⟨w.heap.size, 0 + i, none⟩ = false := by
      intro W' h; rw [h0]; exact ⟨(h.cell i).trans hu, h.frozen i⟩
    refine cw_if rfl (fun h2 => ?_) (fun h2 => ?_)
    · have Bd := B.ext (Fr.drew W)
      have hbyte : ∀ j, j < 4 → W.drew.cell? ⟨bk, off + (4 * i + j), none⟩ = some (.int .u8 (byteL b (4 * i + j))) := by
        intro j hj
        have := hE'.cell (hc (4 * i + j) (by omega))
        rw [this, byteL, List.getD_eq_getElem?_getD, List.getElem?_eq_getElem (by omega)]
        rfl
      refine (cw_seq (cw_draw flo (fun W' => ∀ j, j < 4 → W'.cell? ⟨bk, off + (4 * i + j), none⟩ = some (.int .u8 (byteL b (4 * i + j)))) (by decide +kernel) hbyte ?_))
      ((iterate 3 refine d_p rfl rfl rfl rfl ?_); refine d_c rfl rfl rfl rfl (by (unfold I64; omega)) ?_)
      refine d_ix (4 * i + 0) rfl rfl rfl rfl (by omega) (by omega) ?_
      refine dw_rd rfl rfl (fun W' hW' => ex_load rfl rfl rfl (hW' 0 (by omega))) rfl ?_
      (refine d_p rfl rfl rfl rfl ?_; refine d_c rfl rfl rfl rfl (by (show (0 : Int) ≤ _; omega)) ?_; (iterate 2 refine d_p rfl rfl rfl rfl ?_); (iterate 2 refine d_c rfl rfl rfl rfl (by (unfold I64; omega)) ?_))
      refine d_ix (4 * i + 1) rfl rfl rfl rfl (by omega) (by omega) ?_
      refine dw_rd rfl rfl (fun W' hW' => ex_load rfl rfl rfl (hW' 1 (by omega))) rfl ?_
      (refine d_p rfl rfl rfl rfl ?_; refine d_c rfl rfl rfl rfl (by (show (0 : Int) ≤ _; omega)) ?_; (iterate 3 refine d_p rfl rfl rfl rfl ?_); (iterate 2 refine d_c rfl rfl rfl rfl (by (unfold I64; omega)) ?_))
      refine d_ix (4 * i + 2) rfl rfl rfl rfl (by omega) (by omega) ?_
      refine dw_rd rfl rfl (fun W' hW' => ex_load rfl rfl rfl (hW' 2 (by omega))) rfl ?_
      (refine d_p rfl rfl rfl rfl ?_; refine d_c rfl rfl rfl rfl (by (show (0 : Int) ≤ _; omega)) ?_; (iterate 3 refine d_p rfl rfl rfl rfl ?_); (iterate 2 refine d_c rfl rfl rfl rfl (by (unfold I64; omega)) ?_))
      refine d_ix (4 * i + 3) rfl rfl rfl rfl (by omega) (by omega) ?_
      refine dw_rd rfl rfl (fun W' hW' => ex_load rfl rfl rfl (hW' 3 (by omega))) rfl ?_
      ((iterate 2 refine d_p rfl rfl rfl rfl ?_))
      refine d_ix (i) rfl rfl rfl rfl (by omega) (by omega) ?_
      refine dw_eu rfl rfl (eu_store rfl rfl rfl rfl rfl (hst _ Bd).1 (hst _ Bd).2) ?_ ?_
      · intro j hj
        have hne := hE.size
        have hbl := hbk
        exact (Fr.cell' (Fr.setCell _ _ _) (hbyte j hj) (by simp; omega))
      refine (dw_nil (pn_then (cw_exit (pn_then_exit (pn_block_exit (pn_then (cw_region ?_)))))))
      refine o_c rfl rfl rfl (by unfold I64; omega) ?_
      (refine o_p rfl rfl rfl ?_)
      have hn : wNext b (schedL b i) i = packW b i := if_pos (by omega)
      have Bs := Bd.set i (.int .u32 (wNext b (schedL b i) i))
      rw [wCells_set b i (by omega), hn] at Bs
      have hzz : 0 + mulz i 1 = i := by rw [mulz_eq]; omega
      refine (ow_nil (pn_round (i + 1) ?_ ?_ ?_))
      · exact ⟨rfl, rfl, rfl, trivial⟩
      · refine ⟨hE'.trans' (Fr.setCell _ _ _) (fun j hj h => by simp at h; omega), ?_, by omega⟩
        rw [hzz]
        exact Bs
      · show 64 - (i + 1) < 64 - i; omega
    · have h2' : 16 ≤ i := by omega
      have Bd := B.ext (Fr.drew W)
      have hS : ∀ j, j < i → W.drew.cell? ⟨w.heap.size, 0 + j, none⟩ = some (.int .u32 ((schedL b i).getD j 0)) := fun j hj => by
        rw [h0]; exact (Bd.cell j).trans (wCells_get b i j hj)
      have hS2 : ∀ j, j < i → W.drew.drew.cell? ⟨w.heap.size, 0 + j, none⟩ = some (.int .u32 ((schedL b i).getD j 0)) := fun j hj => Ext.cell (Fr.drew _) (hS j hj)
      have hS3 : ∀ j, j < i → W.drew.drew.drew.cell? ⟨w.heap.size, 0 + j, none⟩ = some (.int .u32 ((schedL b i).getD j 0)) := fun j hj => Ext.cell (Fr.drew _) (hS2 j hj)
      refine (cw_skip (pn_then (cw_seq (cw_draw flo (fun W' => ∀ j, j < i → W'.cell? ⟨w.heap.size, 0 + j, none⟩ = some (.int .u32 ((schedL b i).getD j 0))) (by decide +kernel) hS ?_))))
      (refine d_p rfl rfl rfl rfl ?_; refine d_c rfl rfl rfl rfl (by (unfold I64; omega)) ?_)
      refine d_ix (i - 15) rfl rfl rfl rfl (by omega) (by omega) ?_
      refine dw_rd rfl rfl (fun W' hW' => ex_load rfl rfl rfl (hW' (i - 15) (by omega))) rfl ?_
      refine dw_call rfl rfl (ec_call rfl) rfl ((turned_spec _ 7 (by decide) (by decide) _).mono ?_)
      rintro _ _ ⟨rfl, rfl⟩; refine ⟨_, rfl, hS, ?_⟩
      (refine d_p rfl rfl rfl rfl ?_; refine d_c rfl rfl rfl rfl (by (unfold I64; omega)) ?_)
      refine d_ix (i - 15) rfl rfl rfl rfl (by omega) (by omega) ?_
      refine dw_rd rfl rfl (fun W' hW' => ex_load rfl rfl rfl (hW' (i - 15) (by omega))) rfl ?_
      refine dw_call rfl rfl (ec_call rfl) rfl ((turned_spec _ 18 (by decide) (by decide) _).mono ?_)
      rintro _ _ ⟨rfl, rfl⟩; refine ⟨_, rfl, hS, ?_⟩
      ((iterate 2 refine d_p rfl rfl rfl rfl ?_); refine d_c rfl rfl rfl rfl (by (unfold I64; omega)) ?_)
      refine d_ix (i - 15) rfl rfl rfl rfl (by omega) (by omega) ?_
      refine dw_rd rfl rfl (fun W' hW' => ex_load rfl rfl rfl (hW' (i - 15) (by omega))) rfl ?_
      (refine d_c rfl rfl rfl rfl (by (show (0 : Int) ≤ _; omega)) ?_; (iterate 2 refine d_p rfl rfl rfl rfl ?_))
      refine (dw_nil (pn_then (cw_seq (cw_draw flo (fun W' => ∀ j, j < i → W'.cell? ⟨w.heap.size, 0 + j, none⟩ = some (.int .u32 ((schedL b i).getD j 0))) (by decide +kernel) hS2 ?_))))
      (refine d_p rfl rfl rfl rfl ?_; refine d_c rfl rfl rfl rfl (by (unfold I64; omega)) ?_)
      refine d_ix (i - 2) rfl rfl rfl rfl (by omega) (by omega) ?_
      refine dw_rd rfl rfl (fun W' hW' => ex_load rfl rfl rfl (hW' (i - 2) (by omega))) rfl ?_
      refine dw_call rfl rfl (ec_call rfl) rfl ((turned_spec _ 17 (by decide) (by decide) _).mono ?_)
      rintro _ _ ⟨rfl, rfl⟩; refine ⟨_, rfl, hS2, ?_⟩
      (refine d_p rfl rfl rfl rfl ?_; refine d_c rfl rfl rfl rfl (by (unfold I64; omega)) ?_)
      refine d_ix (i - 2) rfl rfl rfl rfl (by omega) (by omega) ?_
      refine dw_rd rfl rfl (fun W' hW' => ex_load rfl rfl rfl (hW' (i - 2) (by omega))) rfl ?_
      refine dw_call rfl rfl (ec_call rfl) rfl ((turned_spec _ 19 (by decide) (by decide) _).mono ?_)
      rintro _ _ ⟨rfl, rfl⟩; refine ⟨_, rfl, hS2, ?_⟩
      ((iterate 2 refine d_p rfl rfl rfl rfl ?_); refine d_c rfl rfl rfl rfl (by (unfold I64; omega)) ?_)
      refine d_ix (i - 2) rfl rfl rfl rfl (by omega) (by omega) ?_
      refine dw_rd rfl rfl (fun W' hW' => ex_load rfl rfl rfl (hW' (i - 2) (by omega))) rfl ?_
      (refine d_c rfl rfl rfl rfl (by (show (0 : Int) ≤ _; omega)) ?_; (iterate 2 refine d_p rfl rfl rfl rfl ?_))
      refine (dw_nil (pn_then (cw_draw flo (fun W' => ∀ j, j < i → W'.cell? ⟨w.heap.size, 0 + j, none⟩ = some (.int .u32 ((schedL b i).getD j 0))) (by decide +kernel) hS3 ?_)))
      ((iterate 2 refine d_p rfl rfl rfl rfl ?_); refine d_c rfl rfl rfl rfl (by (unfold I64; omega)) ?_)
      refine d_ix (i - 16) rfl rfl rfl rfl (by omega) (by omega) ?_
      refine dw_rd rfl rfl (fun W' hW' => ex_load rfl rfl rfl (hW' (i - 16) (by omega))) rfl ?_
      ((iterate 3 refine d_p rfl rfl rfl rfl ?_); refine d_c rfl rfl rfl rfl (by (unfold I64; omega)) ?_)
      refine d_ix (i - 7) rfl rfl rfl rfl (by omega) (by omega) ?_
      refine dw_rd rfl rfl (fun W' hW' => ex_load rfl rfl rfl (hW' (i - 7) (by omega))) rfl ?_
      ((iterate 3 refine d_p rfl rfl rfl rfl ?_))
      refine d_ix (i) rfl rfl rfl rfl (by omega) (by omega) ?_
      have B3 := (Bd.ext (Fr.drew _)).ext (Fr.drew W.drew.drew)
      have hE3 : Ext w W.drew.drew.drew := (hE'.trans (Fr.drew _)).trans (Fr.drew _)
      refine dw_eu rfl rfl (eu_store rfl rfl rfl rfl rfl (hst _ B3).1 (hst _ B3).2) ?_ ?_
      · intro j hj
        have hne : (⟨w.heap.size, 0 + j, none⟩ : Addr) ≠ ⟨w.heap.size, 0 + mulz i 1, none⟩ := by rw [mulz_eq]; simp <;> omega
        rw [World.cell?_setCell_other _ _ _ _ hne.symm]
        exact hS3 j hj
      have hn : wNext b (schedL b i) i = add32 (add32 (add32 ((schedL b i).getD (i - 16) 0) (sig0 ((schedL b i).getD (i - 15) 0))) ((schedL b i).getD (i - 7) 0)) (sig1 ((schedL b i).getD (i - 2) 0)) := if_neg (by omega)
      have Bs := B3.set i (.int .u32 (wNext b (schedL b i) i))
      rw [wCells_set b i (by omega), hn] at Bs
      have hzz : 0 + mulz i 1 = i := by rw [mulz_eq]; omega
      refine (dw_nil (pn_block (pn_then (cw_region ?_))))
      refine o_c rfl rfl rfl (by unfold I64; omega) ?_
      (refine o_p rfl rfl rfl ?_)
      refine (ow_nil (pn_round (i + 1) ?_ ?_ ?_))
      · exact ⟨rfl, rfl, rfl, trivial⟩
      · refine ⟨hE3.trans' (Fr.setCell _ _ _) (fun j hj h => by simp at h; omega), ?_, by omega⟩
        rw [hzz]
        exact Bs
      · show 64 - (i + 1) < 64 - i; omega
  · refine (cw_exit (pn_then_exit (pn_loop_exit (pn_block_exit (pn_then (cw_seq (cw_region ?_)))))))
    obtain rfl : i = 64 := by omega
    have hlen := wCells_len b 64 (by omega)
    have hW : wCells b 64 = u32s (schedL b 64) := by simp [wCells]
    rw [hW] at B hlen
    generalize schedL b 64 = X at *
    refine ow_ex rfl (ex_loadN (cs := u32s X) rfl rfl rfl hlen (fun j _ => by rw [Nat.zero_add]; exact B.cell j)) rfl ?_
    refine ow_eu rfl (eu_storeB (vs := u32s X) rfl rfl rfl rfl (by rw [hlen]; rfl) (by intro u hu; obtain ⟨x, _, rfl⟩ := List.mem_map.1 hu; rfl) B (Nat.ble_eq_true_of_le (by omega))) ?_
    have Bf := B.setRow (ds := spl (u32s X) 0 (u32s X))
    have hspl : spl (u32s X) 0 (u32s X) = u32s X := by simp [spl]
    rw [hspl] at Bf
    rw [hspl]
    refine (ow_nil (pn_then (cw_ret (pn_retC rfl rfl rfl rfl (by rw [hlen]; rfl) Bf ⟨rfl, ?_⟩))))
    exact hE.trans' (Fr.setRow _ _ _) (fun j hj h => by omega)
end Go.Proofs.YtmeiadgpglpelaaGreat
/- Digests, part two: a block is taken in. Conditions: the bytes may be read. -/
namespace Go.Proofs.YtmeiadgpglpelaaGreat
open Go.Eng Go.RowKit

def keyL : List Int := [
  0x428a2f98, 0x71374491, 0xb5c0fbcf, 0xe9b5dba5, 0x3956c25b, 0x59f111f1, 0x923f82a4, 0xab1c5ed5,
  0xd807aa98, 0x12835b01, 0x243185be, 0x550c7dc3, 0x72be5d74, 0x80deb1fe, 0x9bdc06a7, 0xc19bf174,
  0xe49b69c1, 0xefbe4786, 0x0fc19dc6, 0x240ca1cc, 0x2de92c6f, 0x4a7484aa, 0x5cb0a9dc, 0x76f988da,
  0x983e5152, 0xa831c66d, 0xb00327c8, 0xbf597fc7, 0xc6e00bf3, 0xd5a79147, 0x06ca6351, 0x14292967,
  0x27b70a85, 0x2e1b2138, 0x4d2c6dfc, 0x53380d13, 0x650a7354, 0x766a0abb, 0x81c2c92e, 0x92722c85,
  0xa2bfe8a1, 0xa81a664b, 0xc24b8b70, 0xc76c51a3, 0xd192e819, 0xd6990624, 0xf40e3585, 0x106aa070,
  0x19a4c116, 0x1e376c08, 0x2748774c, 0x34b0bcb5, 0x391c0cb3, 0x4ed8aa4a, 0x5b9cca4f, 0x682e6ff3,
  0x748f82ee, 0x78a5636f, 0x84c87814, 0x8cc70208, 0x90befffa, 0xa4506ceb, 0xbef9a3f7, 0xc67178f2]
def beginL : List Int := [0x6a09e667, 0xbb67ae85, 0x3c6ef372, 0xa54ff53a, 0x510e527f, 0x9b05688c, 0x1f83d9ab, 0x5be0cd19]

theorem u32s_one (l : List Int) : ∀ u ∈ u32s l, u.oneCell' = true := by intro u hu; obtain ⟨x, _, rfl⟩ := List.mem_map.1 hu; rfl
theorem u32s_len (l : List Int) : (u32s l).length = l.length := by simp [u32s]
theorem u32s_get (l : List Int) (i : Nat) (h : i < l.length) : (u32s l)[i]? = some (.int .u32 (l.getD i 0)) := by
  simp only [u32s, List.getElem?_map, List.getD_eq_getElem?_getD]
  rw [List.getElem?_eq_getElem h]; rfl
set_option maxRecDepth 20000 in
theorem keys_spec (w : World) : Calls Tryz.prog n_sha_keys #[] w fun e w' => e = .returned (.agg (u32s keyL).toArray) ∧ Ext w w' := by
  refine enter0 F_sha_keys rfl rfl ?_
  refine (cw_seq (cw_region ?_))
  refine ow_new rfl rfl rfl rfl ?_
  intro w1 B1 e1 z1
  change Blk w1 w.heap.size t_64_uint32 (u32s (List.replicate 64 0)) at B1
  refine on (sr ?_)
  refine ow_pu (v := .agg ⟨u32s keyL⟩) rfl (pevb_sound (by kernel_rfl)) rfl ?_
  refine ow_eu rfl (eu_storeW (vs := u32s keyL) rfl rfl rfl rfl rfl (u32s_one _) B1 rfl) ?_
  exact (ow_nil (pn_then (cw_ret (pn_retC rfl rfl rfl rfl rfl (B1.setRow (ds := u32s keyL)) ⟨rfl, e1.trans' (Fr.setRow _ _ _) (fun j hj h => by omega)⟩))))
theorem begin_spec (w : World) : Calls Tryz.prog n_sha_begin #[] w fun e w' => e = .returned (.agg (u32s beginL).toArray) ∧ Ext w w' := by
  refine enter0 F_sha_begin rfl rfl ?_
  refine (cw_seq (cw_region ?_))
  refine ow_new rfl rfl rfl rfl ?_
  intro w1 B1 e1 z1
  change Blk w1 w.heap.size t_sha_words (u32s (List.replicate 8 0)) at B1
  refine on (sr ?_)
  refine ow_pu (v := .agg ⟨u32s beginL⟩) rfl (pevb_sound (by kernel_rfl)) rfl ?_
  refine ow_eu rfl (eu_storeW (vs := u32s beginL) rfl rfl rfl rfl rfl (u32s_one _) B1 rfl) ?_
  exact (ow_nil (pn_then (cw_ret (pn_retC rfl rfl rfl rfl rfl (B1.setRow (ds := u32s beginL)) ⟨rfl, e1.trans' (Fr.setRow _ _ _) (fun j hj h => by omega)⟩))))

/-! ## Rounds -/
structure W8 where
  a : Int
  b : Int
  c : Int
  d : Int
  e : Int
  f : Int
  g : Int
  h : Int
def W8.l (s : W8) : List Int := [s.a, s.b, s.c, s.d, s.e, s.f, s.g, s.h]
def rndX (s : W8) (k x : Int) : Int := add32 (add32 (add32 (add32 s.h (xor32 (xor32 (rotr s.e 6) (rotr s.e 11)) (rotr s.e 25))) (xor32 (and32 s.e s.f) (and32 (cpl .u32 s.e) s.g))) k) x
def rndY (s : W8) : Int := add32 (xor32 (xor32 (rotr s.a 2) (rotr s.a 13)) (rotr s.a 22)) (xor32 (xor32 (and32 s.a s.b) (and32 s.a s.c)) (and32 s.b s.c))
def rnd (s : W8) (k x : Int) : W8 := ⟨add32 (rndX s k x) (rndY s), s.a, s.b, s.c, add32 s.d (rndX s k x), s.e, s.f, s.g⟩
def rnds (s : W8) (K X : List Int) : Nat → W8
  | 0 => s
  | n + 1 => rnd (rnds s K X n) (K.getD n 0) (X.getD n 0)
def upd (A C : List Int) (i : Nat) : List Int := (List.range 8).map fun j => if j < i then add32 (A.getD j 0) (C.getD j 0) else A.getD j 0
theorem upd_len (A C : List Int) (i : Nat) : (upd A C i).length = 8 := by simp [upd]
theorem upd_get (A C : List Int) (i j : Nat) (h : j < 8) : (upd A C i).getD j 0 = if j < i then add32 (A.getD j 0) (C.getD j 0) else A.getD j 0 := by
  rw [List.getD_eq_getElem?_getD, List.getElem?_eq_getElem (by rw [upd_len]; exact h)]; simp [upd]
theorem upd_set (A C : List Int) (i : Nat) (h : i < 8) : (upd A C i).set i (add32 (A.getD i 0) (C.getD i 0)) = upd A C (i + 1) := by
  apply List.ext_getElem
  · simp [upd_len]
  · intro j h1 h2
    rw [List.getElem_set]
    simp only [upd, List.getElem_map, List.getElem_range]
    split
    · rename_i e; subst e; rw [if_pos (by omega)]
    · rename_i e
      by_cases hj : j < i
      · rw [if_pos hj, if_pos (by omega)]
      · rw [if_neg hj, if_neg (by omega)]
theorem upd_zero (A C : List Int) (h : A.length = 8) : upd A C 0 = A := by
  apply List.ext_getElem
  · rw [upd_len, h]
  · intro j h1 h2
    simp [upd, List.getElem?_eq_getElem h2]
def toW (l : List Int) : W8 := ⟨l.getD 0 0, l.getD 1 0, l.getD 2 0, l.getD 3 0, l.getD 4 0, l.getD 5 0, l.getD 6 0, l.getD 7 0⟩
theorem toW_l (l : List Int) (h : l.length = 8) : (toW l).l = l := by
  match l, h with
  | [_, _, _, _, _, _, _, _], _ => rfl
/-- A block is taken in. -/
def blockM (A b : List Int) : List Int := upd A (rnds (toW A) keyL (schedL b 64) 64).l 8
theorem blockM_len (A b : List Int) : (blockM A b).length = 8 := upd_len _ _ _
end Go.Proofs.YtmeiadgpglpelaaGreat
/- Digests, part three: the walk of the block. Conditions: the bytes may be read; the words lie at the head of a block. -/
namespace Go.Proofs.YtmeiadgpglpelaaGreat
open Go.Eng Go.RowKit

theorem dw_sub {P : Program} {fl : Oper → Bool} {ro : Option Nat} {N : Nat} {S : World → Prop} {l : List Oper} {k : Nat} {rest : List Oper} {Q : Exit → Act → World → Prop} {E E' : List (Nat × Value)} {ds : List Deferred} {w : World} (hs : Sub E' E)
    (h : DW P fl ro N S l k rest Q E' ds w) : DW P fl ro N S l k rest Q E ds w := fun a hk hd hS hl => h a (hk.sub hs) hd hS hl
def headOf : Option Code → Code
  | some (.seq r _) => r
  | _ => .skip
set_option maxRecDepth 20000 in
/-- The first region (its order is drawn, and calls and new memory stand unordered in it). -/
theorem block_head {vb : Value} {A b : List Int} {rest : List Value} {ga ta : Nat} {w : World} {Q' : Exit → Act → World → Prop} (hb : VL (Value.int .u8) w vb b) (hl : 64 ≤ b.length) (hA : A.length = 8) (BA : Blk w ga ta (u32s A ++ rest))
    (H : ∀ w8 gc gk gx, Ext w w8 → w.heap.size ≤ gc → w.heap.size ≤ gk → w.heap.size ≤ gx → gc ≠ gk → gc ≠ gx → gk ≠ gx → Blk w8 gc t_sha_words (u32s A) → Blk w8 gk t_64_uint32 (u32s keyL) → Blk w8 gx t_64_uint32 (u32s (schedL b 64)) →
      PN Tryz.f168.ntmps Q' .normal [(0, .pointer (some ⟨ga, 0, none⟩)), (4, .pointer (some ⟨gc, 0, none⟩)), (5, .pointer (some ⟨gk, 0, none⟩)), (6, .pointer (some ⟨gx, 0, none⟩))] [] w8) :
    CW Tryz.prog none Tryz.f168.ntmps (headOf Tryz.f168.body) Q' [(0, .pointer (some ⟨ga, 0, none⟩)), (1, vb)] [] w := by
  have hA8 : (u32s A).length = 8 := by rw [u32s_len, hA]
  let own : Nat → Value → Option Nat := fun i v => if 6 ≤ i then (match v with | .pointer (some a) => some a.block | _ => none) else none
  let φ : Nat → (Nat → Value) → World → Prop := fun i vs w => match i with
    | 0 => vs 0 = .pointer (some ⟨ga, 0, none⟩)
    | 1 => vs 1 = .pointer (some ⟨ga, 0, none⟩)
    | 2 => vs 2 = .agg (u32s A).toArray
    | 3 => vs 3 = .agg (u32s keyL).toArray
    | 4 => vs 4 = vb
    | 5 => vs 5 = .agg (u32s (schedL b 64)).toArray
    | 6 => ∃ g, vs 6 = .pointer (some ⟨g, 0, none⟩) ∧ Blk w g t_sha_words (u32s (List.replicate 8 0))
    | 7 => ∃ g, vs 7 = .pointer (some ⟨g, 0, none⟩) ∧ Blk w g t_64_uint32 (u32s (List.replicate 64 0))
    | 8 => ∃ g, vs 8 = .pointer (some ⟨g, 0, none⟩) ∧ Blk w g t_64_uint32 (u32s (List.replicate 64 0))
    | _ => True
  refine cw_ext (fl := flo) 9 (fun _ => True) [(0, .pointer (some ⟨ga, 0, none⟩)), (1, vb)] ⟨rfl, rfl, trivial⟩ rfl (by kernel_rfl) φ own ?_ ?_ ?_ ?_
  · intro j vs w1 w2 h hE
    match j, h with
    | 0, h | 1, h | 2, h | 3, h | 4, h | 5, h => exact h
    | 6, ⟨g, h1, h2⟩ => exact ⟨g, h1, h2.ext hE⟩
    | 7, ⟨g, h1, h2⟩ => exact ⟨g, h1, h2.ext hE⟩
    | 8, ⟨g, h1, h2⟩ => exact ⟨g, h1, h2.ext hE⟩
    | _ + 9, _ => trivial
  · intro j vs vs' w1 h hv
    have := hv j (.inl rfl)
    match j, h with
    | 0, h | 1, h | 2, h | 3, h | 4, h | 5, h => exact this.symm.trans h
    | 6, ⟨g, h1, h2⟩ => exact ⟨g, this.symm.trans h1, h2⟩
    | 7, ⟨g, h1, h2⟩ => exact ⟨g, this.symm.trans h1, h2⟩
    | 8, ⟨g, h1, h2⟩ => exact ⟨g, this.symm.trans h1, h2⟩
    | _ + 9, _ => trivial
  · intro i o hi ho vs a w' hE hk hφ
    match i, hi, ho, hk, hφ with
    | 0, _, ho, hk, hφ =>
      obtain rfl := Option.some.inj ho
      exact eff_ex hk (pev_sound (tt := lookT tts) (by kernel_rfl) w') ⟨Fr.refl _ _, rfl, fun g h => by simp [own] at h⟩
    | 1, _, ho, hk, hφ =>
      obtain rfl := Option.some.inj ho
      have h0 : vs 0 = .pointer (some ⟨ga, 0, none⟩) := hφ 0 (by decide +kernel)
      have hk := hk.sub (E' := [(11, .pointer (some ⟨ga, 0, none⟩))]) ⟨by rw [← h0]; kernel_rfl, trivial⟩
      exact eff_ex hk (pev_sound (tt := lookT tts) (by kernel_rfl) w') ⟨Fr.refl _ _, rfl, fun g h => by simp [own] at h⟩
    | 2, _, ho, hk, hφ =>
      obtain rfl := Option.some.inj ho
      have h0 : vs 1 = .pointer (some ⟨ga, 0, none⟩) := hφ 1 (by decide +kernel)
      have hk := hk.sub (E' := [(12, .pointer (some ⟨ga, 0, none⟩))]) ⟨by rw [← h0]; kernel_rfl, trivial⟩
      exact eff_ex hk (ex_loadN (tt := lookT tts) (cs := u32s A) rfl rfl rfl hA8 (fun j hj => by rw [Nat.zero_add, (BA.ext hE).cell j, List.getElem?_append_left hj])) ⟨Fr.refl _ _, rfl, fun g h => by simp [own] at h⟩
    | 3, _, ho, hk, hφ =>
      obtain rfl := Option.some.inj ho
      have hk := hk.sub (E' := []) trivial
      refine eff_call hk (ec_call rfl) ((keys_spec w').mono ?_)
      rintro e w'' ⟨rfl, he⟩
      exact ⟨_, rfl, he, rfl, fun g h => by simp [own] at h⟩
    | 4, _, ho, hk, hφ =>
      obtain rfl := Option.some.inj ho
      have hk := hk.sub (E' := [(1, vb)]) ⟨by kernel_rfl, trivial⟩
      exact eff_ex hk (pev_sound (tt := lookT tts) (by kernel_rfl) w') ⟨Fr.refl _ _, rfl, fun g h => by simp [own] at h⟩
    | 5, _, ho, hk, hφ =>
      obtain rfl := Option.some.inj ho
      have h0 : vs 4 = vb := hφ 4 (by decide +kernel)
      have hk := hk.sub (E' := [(15, vb)]) ⟨by rw [← h0]; kernel_rfl, trivial⟩
      refine eff_call hk (ec_call rfl) ((spread_spec (hb.ext hE) hl).mono ?_)
      rintro e w'' ⟨rfl, he⟩
      exact ⟨_, rfl, he, rfl, fun g h => by simp [own] at h⟩
    | 6, _, ho, hk, hφ =>
      obtain rfl := Option.some.inj ho
      exact eff_ex hk (ex_alloc (tt := lookT tts) rfl) ⟨Fr.alloc _ _, ⟨_, rfl, Blk.new w' t_sha_words (u32s (List.replicate 8 0))⟩, fun g h => by simp [own] at h; subst h; simp⟩
    | 7, _, ho, hk, hφ =>
      obtain rfl := Option.some.inj ho
      exact eff_ex hk (ex_alloc (tt := lookT tts) rfl) ⟨Fr.alloc _ _, ⟨_, rfl, Blk.new w' t_64_uint32 (u32s (List.replicate 64 0))⟩, fun g h => by simp [own] at h; subst h; simp⟩
    | 8, _, ho, hk, hφ =>
      obtain rfl := Option.some.inj ho
      exact eff_ex hk (ex_alloc (tt := lookT tts) rfl) ⟨Fr.alloc _ _, ⟨_, rfl, Blk.new w' t_64_uint32 (u32s (List.replicate 64 0))⟩, fun g h => by simp [own] at h; subst h; simp⟩
    | _ + 9, h, _, _, _ => omega
  · intro vs w5 hE hφ hlow hap
    have v2 : vs 2 = .agg (u32s A).toArray := hφ 2 (by decide)
    have v3 : vs 3 = .agg (u32s keyL).toArray := hφ 3 (by decide)
    have v5 : vs 5 = .agg (u32s (schedL b 64)).toArray := hφ 5 (by decide)
    obtain ⟨gc, v6, B6⟩ : ∃ g, vs 6 = .pointer (some ⟨g, 0, none⟩) ∧ Blk w5 g t_sha_words (u32s (List.replicate 8 0)) := hφ 6 (by decide)
    obtain ⟨gk, v7, B7⟩ : ∃ g, vs 7 = .pointer (some ⟨g, 0, none⟩) ∧ Blk w5 g t_64_uint32 (u32s (List.replicate 64 0)) := hφ 7 (by decide)
    obtain ⟨gx, v8, B8⟩ : ∃ g, vs 8 = .pointer (some ⟨g, 0, none⟩) ∧ Blk w5 g t_64_uint32 (u32s (List.replicate 64 0)) := hφ 8 (by decide)
    have o6 : own 6 (vs 6) = some gc := by rw [v6]; rfl
    have o7 : own 7 (vs 7) = some gk := by rw [v7]; rfl
    have o8 : own 8 (vs 8) = some gx := by rw [v8]; rfl
    have l6 := hlow 6 (by decide) gc o6
    have l7 := hlow 7 (by decide) gk o7
    have l8 := hlow 8 (by decide) gx o8
    have n67 : gc ≠ gk := fun e => hap 6 7 (by decide) (by decide) (by decide) gc o6 (by rw [o7, e])
    have n68 : gc ≠ gx := fun e => hap 6 8 (by decide) (by decide) (by decide) gc o6 (by rw [o8, e])
    have n78 : gk ≠ gx := fun e => hap 7 8 (by decide) (by decide) (by decide) gk o7 (by rw [o8, e])
    refine ⟨trivial, ?_⟩
    have hX : (schedL b 64).length = 64 := sched_len b 64
    have hK : keyL.length = 64 := rfl
    generalize schedL b 64 = X at *
    generalize keyL = K at *
    refine dw_sub (E' := [(0, .pointer (some ⟨ga, 0, none⟩)), (4, .pointer (some ⟨gc, 0, none⟩)), (5, .pointer (some ⟨gk, 0, none⟩)), (6, .pointer (some ⟨gx, 0, none⟩)), (13, .agg (u32s A).toArray), (14, .agg (u32s K).toArray), (16, .agg (u32s X).toArray)])
      ⟨by kernel_rfl, by rw [← v6]; kernel_rfl, by rw [← v7]; kernel_rfl, by rw [← v8]; kernel_rfl, by rw [← v2]; kernel_rfl, by rw [← v3]; kernel_rfl, by rw [← v5]; kernel_rfl, trivial⟩ ?_
    refine dw_storeW (vs := u32s A) rfl rfl rfl rfl rfl rfl rfl (by rw [hA8]; rfl) (u32s_one _) B6 (by rw [hA8]; rfl) ?_
    intro w6 C6 f6 z6
    refine ⟨trivial, ?_⟩
    refine dw_storeW (vs := u32s K) rfl rfl rfl rfl rfl rfl rfl (by rw [u32s_len, hK]; rfl) (u32s_one _) (B7.fr f6 (by omega)) (by rw [u32s_len, hK]; rfl) ?_
    intro w7 C7 f7 z7
    refine ⟨trivial, ?_⟩
    refine dw_storeW (vs := u32s X) rfl rfl rfl rfl rfl rfl rfl (by rw [u32s_len, hX]; rfl) (u32s_one _) ((B8.fr f6 (by omega)).fr f7 (by omega)) (by rw [u32s_len, hX]; rfl) ?_
    intro w8 C8 f8 z8
    refine ⟨trivial, dw_nil (pn_sub (E' := [(0, .pointer (some ⟨ga, 0, none⟩)), (4, .pointer (some ⟨gc, 0, none⟩)), (5, .pointer (some ⟨gk, 0, none⟩)), (6, .pointer (some ⟨gx, 0, none⟩))]) ⟨rfl, rfl, rfl, rfl, trivial⟩ (H w8 gc gk gx ?_ l6.1 l7.1 l8.1 n67 n68 n78 ((C6.fr f7 (by omega)).fr f8 (by omega)) (C7.fr f8 (by omega)) C8))⟩
    exact ((hE.trans' f6 (fun j hj h => by omega)).trans' f7 (fun j hj h => by omega)).trans' f8 (fun j hj h => by omega)

theorem block_spec {vb : Value} {A b : List Int} {rest : List Value} {ga ta : Nat} {w : World} (hb : VL (Value.int .u8) w vb b) (hl : 64 ≤ b.length) (hA : A.length = 8) (BA : Blk w ga ta (u32s A ++ rest)) :
    Calls Tryz.prog n_p_sha_words_block #[.pointer (some ⟨ga, 0, none⟩), vb] w fun e w' => (∃ v, e = .returned v) ∧ Blk w' ga ta (u32s (blockM A b) ++ rest) ∧ Fr (· = ga) w w' := by
  have hM : blockM A b = upd A (rnds (toW A) keyL (schedL b 64) 64).l 8 := rfl
  have hX : (schedL b 64).length = 64 := sched_len b 64
  have hK : keyL.length = 64 := rfl
  rw [hM]
  refine enter2 F_p_sha_words_block rfl rfl ?_
  refine cw_seq (block_head hb hl hA BA ?_)
  intro w8 gc gk gx e08 g1 g2 g3 n1 n2 n3 BC BK BX
  generalize schedL b 64 = X at *
  generalize keyL = K at *
  have hga : ga < w.heap.size := BA.lt
  replace BC : Blk w8 gc t_sha_words (u32s (rnds (toW A) K X 0).l) := by
    rwa [show (rnds (toW A) K X 0).l = A from toW_l A hA]
  refine pn_then ?_
  (refine ss ?_; refine sr ?_; refine o_p rfl rfl rfl ?_; refine on ?_)
  refine cw_block (cw_loop (G := Nat) (fun i => [(0, .pointer (some ⟨ga, 0, none⟩)), (4, .pointer (some ⟨gc, 0, none⟩)), (5, .pointer (some ⟨gk, 0, none⟩)), (6, .pointer (some ⟨gx, 0, none⟩)), (17, .int .i64 (i : Int))])
    (fun i W => Ext w W ∧ Blk W gc t_sha_words (u32s (rnds (toW A) K X i).l) ∧ Blk W gk t_64_uint32 (u32s K) ∧ Blk W gx t_64_uint32 (u32s X) ∧ i ≤ 64) (fun i => 64 - i) ?_ ?_)
  · exact ⟨0, ⟨rfl, rfl, rfl, rfl, rfl, trivial⟩, e08, BC, BK, BX, by omega⟩
  rintro i W ⟨hE, BC, BK, BX, hi⟩
  try dsimp only
  (refine sr ?_; refine o_p rfl rfl rfl ?_; refine on ?_)
  refine cw_seq (cw_if rfl (fun h => ?_) (fun h => ?_))
  · have hnx : rnds (toW A) K X (i + 1) = rnd (rnds (toW A) K X i) (K.getD i 0) (X.getD i 0) := rfl
    generalize hs : rnds (toW A) K X i = s at *
    generalize hki : K.getD i 0 = ki at *
    generalize hxi : X.getD i 0 = xi at *
    have ck : ∀ W', Ext W W' → W'.cell? ⟨gk, 0 + i, none⟩ = some (.int .u32 ki) := fun W' hW' => by
      rw [Nat.zero_add, ← hki]; exact Ext.cell hW' ((BK.cell i).trans (u32s_get K i (by omega)))
    have cx : ∀ W', Ext W W' → W'.cell? ⟨gx, 0 + i, none⟩ = some (.int .u32 xi) := fun W' hW' => by
      rw [Nat.zero_add, ← hxi]; exact Ext.cell hW' ((BX.cell i).trans (u32s_get X i (by omega)))
    have cc : ∀ W', Ext W W' → ∀ j, W'.cell? ⟨gc, j, none⟩ = (u32s s.l)[j]? := fun W' hW' j => (BC.ext hW').cell j
    refine (cw_skip (pn_then (cw_seq (cw_block (cw_seq (cw_region ?_))))))
    ((iterate 2 refine o_p rfl rfl rfl ?_))
    have d1 : Ext W W.drew := Fr.drew _
    refine (ow_nil (pn_then (cw_seq (cw_draw flo (fun W' => Ext W W') (by decide +kernel) d1 ?_))))
    refine d_ix (7) rfl rfl rfl rfl (by omega) (by omega) ?_
    refine dw_rd rfl rfl (fun W' hW' => ex_load rfl rfl rfl (cc W' hW' 7)) rfl ?_
    refine d_ix (4) rfl rfl rfl rfl (by omega) (by omega) ?_
    refine dw_rd rfl rfl (fun W' hW' => ex_load rfl rfl rfl (cc W' hW' 4)) rfl ?_
    refine dw_call rfl rfl (ec_call rfl) rfl ((turned_spec _ 6 (by decide) (by decide) _).mono ?_)
    rintro _ _ ⟨rfl, rfl⟩; refine ⟨_, rfl, d1, ?_⟩
    refine d_ix (4) rfl rfl rfl rfl (by omega) (by omega) ?_
    refine dw_rd rfl rfl (fun W' hW' => ex_load rfl rfl rfl (cc W' hW' 4)) rfl ?_
    refine dw_call rfl rfl (ec_call rfl) rfl ((turned_spec _ 11 (by decide) (by decide) _).mono ?_)
    rintro _ _ ⟨rfl, rfl⟩; refine ⟨_, rfl, d1, ?_⟩
    (refine d_p rfl rfl rfl rfl ?_)
    refine d_ix (4) rfl rfl rfl rfl (by omega) (by omega) ?_
    refine dw_rd rfl rfl (fun W' hW' => ex_load rfl rfl rfl (cc W' hW' 4)) rfl ?_
    refine dw_call rfl rfl (ec_call rfl) rfl ((turned_spec _ 25 (by decide) (by decide) _).mono ?_)
    rintro _ _ ⟨rfl, rfl⟩; refine ⟨_, rfl, d1, ?_⟩
    ((iterate 2 refine d_p rfl rfl rfl rfl ?_))
    refine d_ix (4) rfl rfl rfl rfl (by omega) (by omega) ?_
    refine dw_rd rfl rfl (fun W' hW' => ex_load rfl rfl rfl (cc W' hW' 4)) rfl ?_
    refine d_ix (5) rfl rfl rfl rfl (by omega) (by omega) ?_
    refine dw_rd rfl rfl (fun W' hW' => ex_load rfl rfl rfl (cc W' hW' 5)) rfl ?_
    (refine d_p rfl rfl rfl rfl ?_)
    refine d_ix (4) rfl rfl rfl rfl (by omega) (by omega) ?_
    refine dw_rd rfl rfl (fun W' hW' => ex_load rfl rfl rfl (cc W' hW' 4)) rfl ?_
    (refine d_p rfl rfl rfl rfl ?_)
    refine d_ix (6) rfl rfl rfl rfl (by omega) (by omega) ?_
    refine dw_rd rfl rfl (fun W' hW' => ex_load rfl rfl rfl (cc W' hW' 6)) rfl ?_
    ((iterate 4 refine d_p rfl rfl rfl rfl ?_))
    refine d_ix (i) rfl rfl rfl rfl (by omega) (by omega) ?_
    refine dw_rd rfl rfl (fun W' hW' => ex_load rfl rfl rfl (ck W' hW')) rfl ?_
    ((iterate 2 refine d_p rfl rfl rfl rfl ?_))
    refine d_ix (i) rfl rfl rfl rfl (by omega) (by omega) ?_
    refine dw_rd rfl rfl (fun W' hW' => ex_load rfl rfl rfl (cx W' hW')) rfl ?_
    ((iterate 2 refine d_p rfl rfl rfl rfl ?_))
    have d2 : Ext W W.drew.drew := d1.trans (Fr.drew _)
    refine (dw_nil (pn_then (cw_seq (cw_draw flo (fun W' => Ext W W') (by decide +kernel) d2 ?_))))
    refine d_ix (0) rfl rfl rfl rfl (by omega) (by omega) ?_
    refine dw_rd rfl rfl (fun W' hW' => ex_load rfl rfl rfl (cc W' hW' 0)) rfl ?_
    refine dw_call rfl rfl (ec_call rfl) rfl ((turned_spec _ 2 (by decide) (by decide) _).mono ?_)
    rintro _ _ ⟨rfl, rfl⟩; refine ⟨_, rfl, d2, ?_⟩
    refine d_ix (0) rfl rfl rfl rfl (by omega) (by omega) ?_
    refine dw_rd rfl rfl (fun W' hW' => ex_load rfl rfl rfl (cc W' hW' 0)) rfl ?_
    refine dw_call rfl rfl (ec_call rfl) rfl ((turned_spec _ 13 (by decide) (by decide) _).mono ?_)
    rintro _ _ ⟨rfl, rfl⟩; refine ⟨_, rfl, d2, ?_⟩
    (refine d_p rfl rfl rfl rfl ?_)
    refine d_ix (0) rfl rfl rfl rfl (by omega) (by omega) ?_
    refine dw_rd rfl rfl (fun W' hW' => ex_load rfl rfl rfl (cc W' hW' 0)) rfl ?_
    refine dw_call rfl rfl (ec_call rfl) rfl ((turned_spec _ 22 (by decide) (by decide) _).mono ?_)
    rintro _ _ ⟨rfl, rfl⟩; refine ⟨_, rfl, d2, ?_⟩
    (refine d_p rfl rfl rfl rfl ?_)
    refine d_ix (0) rfl rfl rfl rfl (by omega) (by omega) ?_
    refine dw_rd rfl rfl (fun W' hW' => ex_load rfl rfl rfl (cc W' hW' 0)) rfl ?_
    refine d_ix (1) rfl rfl rfl rfl (by omega) (by omega) ?_
    refine dw_rd rfl rfl (fun W' hW' => ex_load rfl rfl rfl (cc W' hW' 1)) rfl ?_
    (refine d_p rfl rfl rfl rfl ?_)
    refine d_ix (0) rfl rfl rfl rfl (by omega) (by omega) ?_
    refine dw_rd rfl rfl (fun W' hW' => ex_load rfl rfl rfl (cc W' hW' 0)) rfl ?_
    refine d_ix (2) rfl rfl rfl rfl (by omega) (by omega) ?_
    refine dw_rd rfl rfl (fun W' hW' => ex_load rfl rfl rfl (cc W' hW' 2)) rfl ?_
    ((iterate 2 refine d_p rfl rfl rfl rfl ?_))
    refine d_ix (1) rfl rfl rfl rfl (by omega) (by omega) ?_
    refine dw_rd rfl rfl (fun W' hW' => ex_load rfl rfl rfl (cc W' hW' 1)) rfl ?_
    refine d_ix (2) rfl rfl rfl rfl (by omega) (by omega) ?_
    refine dw_rd rfl rfl (fun W' hW' => ex_load rfl rfl rfl (cc W' hW' 2)) rfl ?_
    ((iterate 4 refine d_p rfl rfl rfl rfl ?_))
    refine (dw_nil (pn_then (cw_region ?_)))
    ((iterate 3 refine o_p rfl rfl rfl ?_))
    refine o_ix (0) rfl rfl rfl (by omega) (by omega) ?_
    refine ow_ex rfl (ex_load rfl rfl rfl (cc _ d2 0)) rfl ?_
    refine o_ix (1) rfl rfl rfl (by omega) (by omega) ?_
    refine ow_ex rfl (ex_load rfl rfl rfl (cc _ d2 1)) rfl ?_
    refine o_ix (2) rfl rfl rfl (by omega) (by omega) ?_
    refine ow_ex rfl (ex_load rfl rfl rfl (cc _ d2 2)) rfl ?_
    refine o_ix (3) rfl rfl rfl (by omega) (by omega) ?_
    refine ow_ex rfl (ex_load rfl rfl rfl (cc _ d2 3)) rfl ?_
    ((iterate 2 refine o_p rfl rfl rfl ?_))
    refine o_ix (4) rfl rfl rfl (by omega) (by omega) ?_
    refine ow_ex rfl (ex_load rfl rfl rfl (cc _ d2 4)) rfl ?_
    refine o_ix (5) rfl rfl rfl (by omega) (by omega) ?_
    refine ow_ex rfl (ex_load rfl rfl rfl (cc _ d2 5)) rfl ?_
    refine o_ix (6) rfl rfl rfl (by omega) (by omega) ?_
    refine ow_ex rfl (ex_load rfl rfl rfl (cc _ d2 6)) rfl ?_
    refine o_b rfl rfl rfl ?_
    refine ow_storeW (vs := u32s (rnd s ki xi).l) rfl rfl rfl rfl rfl rfl rfl (u32s_one _) (BC.ext d2) rfl ?_
    intro W9 B9 f9 z9
    refine (ow_nil (pn_block (pn_then (cw_region ?_))))
    refine o_c rfl rfl rfl (by unfold I64; omega) ?_
    (refine o_p rfl rfl rfl ?_)
    have hsz := d2.size
    refine (ow_nil (pn_round (i + 1) ?_ ?_ ?_))
    · exact ⟨rfl, rfl, rfl, rfl, rfl, trivial⟩
    · refine ⟨(hE.trans d2).trans' f9 (fun j hj h => by omega), ?_, (BK.ext d2).fr f9 (by omega), (BX.ext d2).fr f9 (by omega), by omega⟩
      rw [hnx]; exact B9
    · show 64 - (i + 1) < 64 - i; omega
  · obtain rfl : i = 64 := by omega
    generalize hC : (rnds (toW A) K X 64).l = C at *
    have hC8 : C.length = 8 := by rw [← hC]; rfl
    refine (cw_exit (pn_then_exit (pn_loop_exit (pn_block_exit (pn_then (cw_seq (cw_region ?_)))))))
    (refine o_p rfl rfl rfl ?_; refine on ?_)
    refine cw_block (cw_loop (G := Nat) (fun i => [(0, .pointer (some ⟨ga, 0, none⟩)), (4, .pointer (some ⟨gc, 0, none⟩)), (105, .int .i64 (i : Int))])
      (fun i W => Fr (· = ga) w W ∧ Blk W ga ta (u32s (upd A C i) ++ rest) ∧ Blk W gc t_sha_words (u32s C) ∧ i ≤ 8) (fun i => 8 - i) ?_ ?_)
    · exact ⟨0, ⟨rfl, rfl, rfl, trivial⟩, Ext.fr hE, by rw [upd_zero A C hA]; exact BA.ext hE, BC, by omega⟩
    rintro i W ⟨hE, BA, BC, hi⟩
    try dsimp only
    (refine sr ?_; refine o_p rfl rfl rfl ?_; refine on ?_)
    refine cw_seq (cw_if rfl (fun h => ?_) (fun h => ?_))
    · have d1 : Ext W W.drew := Fr.drew _
      have hu8 : (u32s (upd A C i)).length = 8 := by rw [u32s_len, upd_len]
      have ca : W.drew.cell? ⟨ga, 0 + i, none⟩ = some (.int .u32 (A.getD i 0)) := by
        rw [Nat.zero_add, (BA.ext d1).cell i, List.getElem?_append_left (by omega), u32s_get _ _ (by rw [upd_len]; omega), upd_get _ _ _ _ (by omega), if_neg (by omega)]
      have cc : W.drew.cell? ⟨gc, 0 + i, none⟩ = some (.int .u32 (C.getD i 0)) := by
        rw [Nat.zero_add, (BC.ext d1).cell i, u32s_get _ _ (by omega)]
      have cf : W.drew.frozen? ⟨ga, 0 + i, none⟩ = false := (BA.ext d1).frozen _
      refine (cw_skip (pn_then (cw_seq (cw_block (cw_seq (cw_region ?_))))))
      ((iterate 2 refine o_p rfl rfl rfl ?_))
      have hgag : ga ≠ gc := by omega
      refine (ow_nil (pn_then (cw_draw2 flo 11 (fun W' => (W'.cell? ⟨gc, 0 + i, none⟩ = some (.int .u32 (C.getD i 0))) ∧ (W'.cell? ⟨ga, 0 + i, none⟩ = some (.int .u32 (A.getD i 0)))) (fun _ => True) rfl (by decide +kernel) ⟨cc, ca⟩ ?_)))
      ((iterate 3 refine d_p rfl rfl rfl rfl ?_))
      refine d_ix (i) rfl rfl rfl rfl (by omega) (by omega) ?_
      refine dw_rd rfl rfl (fun W' hW' => ex_load rfl rfl rfl (hW'.2)) rfl ?_
      (refine d_p rfl rfl rfl rfl ?_)
      refine d_ix (i) rfl rfl rfl rfl (by omega) (by omega) ?_
      refine dw_rd rfl rfl (fun W' hW' => ex_load rfl rfl rfl (hW'.1)) rfl ?_
      ((iterate 2 refine d_p rfl rfl rfl rfl ?_))
      refine d_ix (i) rfl rfl rfl rfl (by omega) (by omega) ?_
      refine dw_nil (pn_draw2 rfl trivial ?_)
      refine dw_eu rfl rfl (eu_store rfl rfl rfl rfl rfl ca cf) trivial ?_
      refine (dw_nil (pn_block (pn_then (cw_region ?_))))
      refine o_c rfl rfl rfl (by unfold I64; omega) ?_
      (refine o_p rfl rfl rfl ?_)
      have Bs := (BA.ext d1).set i (.int .u32 (add32 (A.getD i 0) (C.getD i 0)))
      rw [List.set_append_left _ _ (by omega)] at Bs
      have hset : (u32s (upd A C i)).set i (.int .u32 (add32 (A.getD i 0) (C.getD i 0))) = u32s (upd A C (i + 1)) := by
        rw [← upd_set A C i (by omega)]; simp [u32s, List.map_set]
      rw [hset] at Bs
      have hzz : 0 + mulz i 1 = i := by rw [mulz_eq]; omega
      refine (ow_nil (pn_round (i + 1) ?_ ?_ ?_))
      · exact ⟨rfl, rfl, rfl, trivial⟩
      · refine ⟨(hE.trans (Ext.fr d1)).trans (Fr.setCell W.drew ⟨ga, _, none⟩ _), ?_, (BC.ext d1).fr (Fr.setCell _ _ _) (by simp; omega), by omega⟩
        rw [hzz]; exact Bs
      · show 8 - (i + 1) < 8 - i; omega
    · refine (cw_exit (pn_then_exit (pn_loop_exit (pn_block_exit (pn_end0 rfl ⟨⟨_, rfl⟩, ?_, hE⟩)))))
      obtain rfl : i = 8 := by omega
      exact BA
end Go.Proofs.YtmeiadgpglpelaaGreat
/- Digests, part four: what a hash is; is it none; how long it is. Conditions: the hash is nil, or lies whole in a block of its own. -/
namespace Go.Proofs.YtmeiadgpglpelaaGreat
open Go.Eng Go.RowKit

/-- A hash's cells. -/
def hashC (a : List Int) (r : Value) (n : Int) (m : Bool) : List Value := u32s a ++ [r, .int .i64 n, .bool m]
theorem hashC_8 (a : List Int) (r : Value) (n : Int) (m : Bool) (h : a.length = 8) : (hashC a r n m)[8]? = some r ∧ (hashC a r n m)[9]? = some (.int .i64 n) ∧ (hashC a r n m)[10]? = some (.bool m) := by
  match a, h with
  | [_, _, _, _, _, _, _, _], _ => exact ⟨rfl, rfl, rfl⟩

theorem none_spec {g t : Nat} {a : List Int} {r : Value} {n : Int} {m : Bool} {w : World} (hB : Blk w g t (hashC a r n m)) (ha : a.length = 8) :
    Calls Tryz.prog n_p_sha_Hash_none #[.pointer (some ⟨g, 0, none⟩)] w fun e w' => e = .returned (.bool (!m)) ∧ w = w' := by
  have h10 := (hB.cell 10).trans (hashC_8 a r n m ha).2.2
  refine enter1 F_p_sha_Hash_none rfl rfl ?_
  (refine sr ?_; refine o_p rfl rfl rfl ?_; refine on ?_; refine sr ?_; refine o_p rfl rfl rfl ?_)
  refine o_n rfl rfl rfl ?_
  ((iterate 4 refine o_p rfl rfl rfl ?_))
  refine ow_ex rfl (ex_load rfl rfl rfl (h10)) rfl ?_
  ((iterate 3 refine o_p rfl rfl rfl ?_))
  exact (ow_nil (pn_then (cw_ret (pn_ret rfl rfl ⟨rfl, rfl⟩))))

theorem New_spec (w : World) : Calls Tryz.prog n_sha_New #[] w fun e w' => ∃ g, e = .returned (.pointer (some ⟨g, 0, none⟩)) ∧ w.heap.size ≤ g ∧ Blk w' g t_sha_Hash (hashC beginL (.slice none 0 0) 0 true) ∧ Ext w w' := by
  refine enter0 F_sha_New rfl rfl ?_
  (refine sr ?_; refine o_p rfl rfl rfl ?_; refine on ?_; refine sr ?_)
  refine ow_call rfl (ec_call rfl) rfl ((begin_spec w).mono ?_)
  rintro _ w1 ⟨rfl, e1⟩; refine ⟨_, rfl, ?_⟩
  refine ow_pu (v := .agg ⟨hashC beginL (.slice none 0 0) 0 true⟩) rfl (pevb_sound (by kernel_rfl)) rfl ?_
  refine ow_box rfl rfl rfl rfl ?_
  intro w2 B2 e2 z2
  (refine o_p rfl rfl rfl ?_)
  exact (ow_nil (pn_then (cw_ret (pn_ret rfl rfl ⟨_, rfl, e1.size, B2, e1.trans e2⟩))))
end Go.Proofs.YtmeiadgpglpelaaGreat
/- Digests, part five: bytes are written into a hash. Conditions: the hash lies whole in a block of its own; the bytes may be read, and lie elsewhere; not too many. -/
namespace Go.Proofs.YtmeiadgpglpelaaGreat
open Go.Eng Go.RowKit

abbrev u8s (l : List Int) : List Value := l.map (Value.int .u8)
theorem u8s_one (l : List Int) : ∀ u ∈ u8s l, u.oneCell' = true := by intro u hu; obtain ⟨x, _, rfl⟩ := List.mem_map.1 hu; rfl
/-- Whole blocks are taken in, from the head. -/
def absorb : Nat → List Int → List Int → List Int × List Int
  | 0, a, l => (a, l)
  | k + 1, a, l => if 64 ≤ l.length then absorb k (blockM a (l.take 64)) (l.drop 64) else (a, l)
theorem absorb_end (k : Nat) (a l : List Int) (h : l.length < 64) : absorb k a l = (a, l) := by
  cases k with
  | zero => rfl
  | succ k => rw [absorb, if_neg (by omega)]
end Go.Proofs.YtmeiadgpglpelaaGreat
/- Digests, part six: copies of bytes. Conditions: the bytes may be read, and are not too many. -/
namespace Go.Proofs.YtmeiadgpglpelaaGreat
open Go.Eng Go.RowKit

abbrev MB (w : World) (base : Nat) (v : Value) (l : List Int) : Prop := Mine w base t_uint8 1 v l.length (u8s l)
theorem Mine.made0 (w : World) : MB (w.alloc (.cells #[] t_uint8)) w.heap.size (.slice (some ⟨w.heap.size, 0, none⟩) 0 0) [] := World.ownsRow_made w #[] 0 (Nat.le_refl _) (by decide) (by rfl)

theorem CopyBytes_spec {va : Value} {xs : List Int} {w : World} (ha : VL (Value.int .u8) w va xs) (hlen : xs.length ≤ 1048576) :
    Calls Tryz.prog n_entrepotkit_CopyBytes #[va] w fun e w' => ∃ v, e = .returned v ∧ MB w' w.heap.size v xs ∧ Ext w w' := by
  refine enter1 F_entrepotkit_CopyBytes rfl rfl ?_
  repeat (first | refine o_p rfl rfl rfl ?_ | refine on ?_ | refine sr ?_ | refine ss ?_)
  refine ow_ex rfl (ex_buildSlice (vs := []) (cells := []) rfl rfl rfl rfl (by decide) (fun z hz => by simp at hz; subst hz; rfl)) rfl ?_
  repeat refine o_p rfl rfl rfl ?_
  refine ow_append rfl rfl rfl rfl rfl rfl rfl rfl (Mine.made0 w) (ha.ext (Fr.alloc _ _)) (u8s_one _) (by simp; omega) (by simp) ?_
  intro v' w' own fr
  repeat refine o_p rfl rfl rfl ?_
  refine on (cw_ret (pn_ret rfl rfl ⟨_, rfl, by simpa [MB, u8s] using own, ?_⟩))
  exact Fr.trans' (Fr.alloc _ _) fr (by intro j hj h; simp [Value.ownBlock] at h; omega)

theorem Clone_spec {va : Value} {xs : List Int} {w : World} (ha : VL (Value.int .u8) w va xs) (hlen : xs.length ≤ 1048576) :
    Calls Tryz.prog n_bytes_Clone #[va] w fun e w' => ∃ v, e = .returned v ∧ MB w' w.heap.size v xs ∧ Ext w w' := by
  obtain ⟨A, c, rfl, hnc, hcm, hz, hcell⟩ := ha.op
  refine enter1 F_bytes_Clone rfl rfl ?_
  (refine sr ?_; refine o_p rfl rfl rfl ?_; refine on ?_; refine ss ?_; refine sr ?_; refine o_p rfl rfl rfl ?_)
  refine o_n rfl rfl rfl ?_
  cases A with
  | none =>
    have h0 : xs = [] := List.eq_nil_of_length_eq_zero (by have := hz rfl; omega)
    subst h0
    refine on (cw_cond_t rfl (sr ?_))
    (refine o_p rfl rfl rfl ?_)
    exact (ow_nil (pn_then (cw_ret (pn_then_ret (pn_ret rfl rfl ⟨_, rfl, Mine.nil _ _ _ _, Fr.refl _ _⟩)))))
  | some a =>
    refine on (cw_cond_f rfl (cw_skip (pn_then (sr ?_))))
    refine ow_ex rfl (ex_buildSlice (vs := []) (cells := []) rfl rfl rfl rfl (by decide) (fun z hz => by simp at hz; subst hz; rfl)) rfl ?_
    (refine o_p rfl rfl rfl ?_)
    refine ow_append rfl rfl rfl rfl rfl rfl rfl rfl (Mine.made0 w) (ha.ext (Fr.alloc _ _)) (u8s_one _) (by simp; omega) (by simp) ?_
    intro v' w' own fr
    (refine o_p rfl rfl rfl ?_)
    refine on (cw_ret (pn_ret rfl rfl ⟨_, rfl, by simpa [MB, u8s] using own, ?_⟩))
    exact Fr.trans' (Fr.alloc _ _) fr (by intro j hj h; simp [Value.ownBlock] at h; omega)
end Go.Proofs.YtmeiadgpglpelaaGreat
/- Digests, part eight: what is written, piece by piece; the digest of what was written. Conditions: the bytes may be read, and are not too many. -/
namespace Go.Proofs.YtmeiadgpglpelaaGreat
open Go.Eng Go.RowKit

theorem hC8 {a : List Int} {r : Value} {n : Int} {m : Bool} (h : a.length = 8) : nth (hashC a r n m) 8 = some r := by
  match a, h with
  | [_, _, _, _, _, _, _, _], _ => rfl
theorem hC9 {a : List Int} {r : Value} {n : Int} {m : Bool} (h : a.length = 8) : nth (hashC a r n m) 9 = some (.int .i64 n) := by
  match a, h with
  | [_, _, _, _, _, _, _, _], _ => rfl
theorem hS8 {a : List Int} {r r' : Value} {n : Int} {m : Bool} (h : a.length = 8) : stO (hashC a r n m) 8 r' = some (hashC a r' n m) := by
  match a, h with
  | [_, _, _, _, _, _, _, _], _ => rfl
theorem hS9 {a : List Int} {r : Value} {n n' : Int} {m : Bool} (h : a.length = 8) : stO (hashC a r n m) 9 (.int .i64 n') = some (hashC a r n' m) := by
  match a, h with
  | [_, _, _, _, _, _, _, _], _ => rfl
/-- A row of bytes of its own. -/
abbrev rB (v : Value) (l : List Int) : SP := row t_uint8 1 v l.length (u8s l)
theorem rB_app (v : Value) (l m : List Int) : row t_uint8 1 v (l.length + m.length) (u8s l ++ u8s m) = rB v (l ++ m) := by simp [rB, u8s]
/-- A block of words is taken in. -/
theorem block_S {b : World} {F : List SP} {vb : Value} {A l : List Int} {rest : List Value} {ga ta : Nat} (hb : ∀ w, Sat b (pt ga ta (u32s A ++ rest) :: F) w → VL (Value.int .u8) w vb l) (hl : 64 ≤ l.length) (hA : A.length = 8) :
    SC Tryz.prog n_p_sha_words_block [.pointer (some ⟨ga, 0, none⟩), vb] b (pt ga ta (u32s A ++ rest) :: F) (fun _ F' => F' = pt ga ta (u32s (blockM A l) ++ rest) :: F) :=
  fun w H => (block_spec (hb w H) hl hA (H.blk (k := 0) rfl)).mono fun _ _ ⟨⟨v, hv⟩, B, f⟩ => ⟨v, _, hv, rfl, H.write (k := 0) rfl f B rfl⟩

theorem block_S0 {b : World} {F : List SP} {vb : Value} {A l : List Int} {ga ta : Nat} (hb : ∀ w, Sat b (pt ga ta (u32s A) :: F) w → VL (Value.int .u8) w vb l) (hl : 64 ≤ l.length) (hA : A.length = 8) :
    SC Tryz.prog n_p_sha_words_block [.pointer (some ⟨ga, 0, none⟩), vb] b (pt ga ta (u32s A) :: F) (fun _ F' => F' = pt ga ta (u32s (blockM A l)) :: F) := by
  have := block_S (b := b) (F := F) (vb := vb) (A := A) (l := l) (rest := []) (ga := ga) (ta := ta) (by rw [List.append_nil]; exact hb) hl hA
  rwa [List.append_nil, List.append_nil] at this

theorem Write_S {b : World} {F : List SP} {g : Nat} {a rs xs : List Int} {r vb : Value} {n : Int} (ha : a.length = 8) (hn : 0 ≤ n ∧ n ≤ 1048576) (hlen : rs.length + xs.length ≤ 1048576) (hb : ∀ w, Sat b F w → VL (Value.int .u8) w vb xs) :
    SC Tryz.prog n_p_sha_Hash_Write [.pointer (some ⟨g, 0, none⟩), vb] b (pt g t_sha_Hash (hashC a r n true) :: rB r rs :: F) (fun v F' => v = .int .i64 0 ∧
      ∃ r', F' = pt g t_sha_Hash (hashC (absorb (rs.length + xs.length) a (rs ++ xs)).1 r' (n + xs.length) true) :: rB r' (absorb (rs.length + xs.length) a (rs ++ xs)).2 :: F) := by
  refine enterS F_p_sha_Hash_Write rfl rfl rfl ?_
  refine sw_fact (fun w H => (hb w (H.ent (ent_keep 2 [] rfl rfl))).form) ?_
  rintro ⟨A, c, rfl, h1, h2, h3, h4⟩
  (refine sw_seq (sw_region ?_); refine so_1 rfl ?_; refine so_nil (sn_then ?_); (iterate 2 refine sw_seq ?_); refine sw_region ?_; refine so_1 rfl ?_)
  refine so_callE rfl rfl rfl (SC.ofEq fun w H => none_spec (H.blk (k := 0) rfl) ha) ?_
  (refine so_nil (sn_then ?_); refine sw_cond_f rfl ?_; refine sw_skip ?_; refine sn_then ?_; refine sw_seq (sw_region ?_); (iterate 3 refine so_1 rfl ?_))
  refine so_ld 0 rfl rfl rfl rfl rfl rfl (hC9 ha) rfl ?_
  ((iterate 2 refine so_1 rfl ?_); refine so_2 rfl (by (unfold I64; omega)) ?_; (iterate 2 refine so_1 rfl ?_))
  refine so_st 0 rfl rfl rfl rfl rfl rfl rfl rfl (hS9 ha) rfl ?_
  (refine so_nil (sn_then ?_); refine sw_seq (sw_region ?_); (iterate 4 refine so_1 rfl ?_))
  refine so_ld 0 rfl rfl rfl rfl rfl rfl (hC8 ha) rfl ?_
  (refine so_1 rfl ?_)
  refine so_append 1 rfl rfl rfl rfl rfl rfl rfl rfl rfl (fun w H => hb w (H.ent (ent_keep 2 [] rfl rfl))) (u8s_one _) (by omega) (fun _ => rfl) fun r' => ?_
  rw [rB_app]
  ((iterate 2 refine so_1 rfl ?_))
  refine so_fact (fun w H => (H.oat (k := 1) rfl).one) fun h1 => ?_
  refine so_st 0 rfl rfl rfl rfl rfl rfl h1 rfl (hS8 ha) rfl ?_
  (refine so_nil (sn_then ?_); refine sw_seq ?_; refine sw_block ?_)
  refine sw_loop (S := List Int × List Int × Value) (fun s => [(0, .pointer (some ⟨g, 0, none⟩))]) (fun s => pt g t_sha_Hash (hashC s.1 s.2.2 (n + xs.length) true) :: rB s.2.2 s.2.1 :: F)
    (fun s => s.1.length = 8 ∧ s.2.1.length ≤ 1048576 ∧ ∃ k, s.2.1.length ≤ k ∧ absorb k s.1 s.2.1 = absorb (rs.length + xs.length) a (rs ++ xs)) (fun s => s.2.1.length) (a, rs ++ xs, r') ⟨rfl, trivial⟩ (Ent.refl _)
    ⟨ha, by simp; omega, rs.length + xs.length, by simp, rfl⟩ ?_
  rintro ⟨a', l, r2⟩ ⟨ha', hl, k, hk, hab⟩
  dsimp only at ha' hl hk hab ⊢
  refine sw_fact (fun w H => (H.oat (k := 1) rfl).form) ?_
  rintro ⟨A2, c2, rfl, hc1, hc2, hc3⟩
  ((iterate 2 refine sw_seq ?_); refine sw_region ?_; (iterate 3 refine so_1 rfl ?_))
  refine so_ld 0 rfl rfl rfl rfl rfl rfl (hC8 ha') rfl ?_
  ((iterate 2 refine so_1 rfl ?_); refine so_nil (sn_then ?_))
  refine sw_if rfl (fun h => ?_) (fun h => ?_)
  · have hl64 : 64 ≤ l.length := by omega
    obtain ⟨g2, off2, rfl⟩ := hc3 (by omega)
    have htk : (u8s l).take (64 * 1) = u8s (l.take 64) := by simp [u8s, List.map_take]
    have hdk : (u8s l).drop (64 * 1) = u8s (l.drop 64) := by simp [u8s, List.map_drop]
    have ht64 : (l.take 64).length = 64 := by simp; omega
    (refine sw_skip ?_; refine sn_then ?_; refine sw_block ?_; refine sw_seq ?_)
    refine sw_draw2 flo 8 (pt g t_sha_Hash (hashC a' (.slice (some ⟨g2, off2, none⟩) l.length c2) (n + xs.length) true) :: F) [] rfl (by decide +kernel) (ent_keep 2 [0] rfl rfl) ?_
    ((iterate 6 refine sd_1 rfl (.inl rfl) ?_))
    refine sd_ld 0 rfl rfl rfl rfl rfl rfl (hC8 ha') rfl rfl ?_
    (refine sd_2 rfl rfl (by omega) ?_)
    refine sd_nil (sn_draw2 rfl (ent_nil _) ?_)
    refine sd_call rfl rfl rfl rfl (block_S (A := a') (l := l.take 64) (rest := [.slice (some ⟨g2, off2, none⟩) l.length c2, .int .i64 (n + xs.length), .bool true]) (fun w H => ?_) (by omega) ha') ?_
    · have := (Oat.take (H.oat (k := 1) rfl) (k := 64) hl64).sl
      rw [htk] at this
      unfold VL; rw [ht64]; exact this
    rintro _ _ rfl
    refine ⟨ent_nil _, sd_nil ?_⟩
    have hb8 := blockM_len a' (l.take 64)
    obtain ⟨a2, ha2⟩ : ∃ a2, a2 = blockM a' (l.take 64) := ⟨_, rfl⟩
    rw [← ha2] at hb8 ⊢
    (refine sn_then ?_; refine sw_region ?_; (iterate 4 refine so_1 rfl ?_))
    refine so_ld 0 rfl rfl rfl rfl rfl rfl (hC8 hb8) rfl ?_
    (refine so_2 rfl (by omega) ?_; (iterate 2 refine so_1 rfl ?_))
    refine so_ent (ent_row_drop (j := 64) hl64 1 rfl rfl rfl) ?_
    rw [hdk]
    refine so_st 0 rfl rfl rfl rfl rfl rfl rfl rfl (hS8 hb8) rfl ?_
    (refine so_nil ?_; refine sn_block ?_)
    refine sn_round (a2, l.drop 64, .slice (if c2 = 64 then some ⟨g2, off2, none⟩ else (some ⟨g2, off2, none⟩ : Option Addr).map (·.add (64 * 1))) (l.length - 64) (c2 - 64)) ⟨rfl, trivial⟩ ?_ ?_ ?_
    · exact ent_set 1 rfl (fun h hA => by have e : (l.drop 64).length = l.length - 64 := by simp
                                          dsimp only [rB]; rw [e]; exact hA) rfl
    · refine ⟨hb8, by simp; omega, ?_⟩
      cases k with
      | zero => omega
      | succ k =>
        refine ⟨k, by simp; omega, ?_⟩
        rw [← hab]
        show _ = absorb (k + 1) a' l
        rw [absorb, if_pos hl64, ha2]
    · show (l.drop 64).length < l.length
      simp; omega
  · (refine sw_exit ?_; refine sn_then_exit ?_; refine sn_loop_exit ?_; refine sn_block_exit ?_; refine sn_then ?_; refine sw_seq (sw_region ?_); refine so_1 rfl ?_; refine so_nil (sn_then ?_); refine sw_ret ?_)
    have he := absorb_end k a' l (by omega)
    rw [hab] at he
    refine sn_ret rfl (.tmp rfl .nil) (Ent.refl _) ?_
    refine ⟨rfl, .slice A2 l.length c2, ?_⟩
    rw [he]
end Go.Proofs.YtmeiadgpglpelaaGreat
/- Digests, part nine: New, and the digest of what was written. Conditions: not too many bytes. -/
namespace Go.Proofs.YtmeiadgpglpelaaGreat
open Go.Eng Go.RowKit

theorem New_S {b : World} {F : List SP} : SC Tryz.prog n_sha_New [] b F (fun v F' => ∃ g, v = .pointer (some ⟨g, 0, none⟩) ∧ F' = pt g t_sha_Hash (hashC beginL (.slice none 0 0) 0 true) :: rB (.slice none 0 0) [] :: F) :=
  fun w H => (New_spec w).mono fun _ w' ⟨g, h1, h2, B, x⟩ => ⟨_, _, h1, ⟨g, rfl, rfl⟩, (H.newOat (Fr.refl _ _) (Oat.nil w w.heap.size t_uint8 1)).alloc x B h2⟩

theorem ent_rB {F G : List SP} {v : Value} {n : Nat} {cs : List Value} {l : List Int} (k : Nat) (hk : nth F k = some (row t_uint8 1 v n cs)) (hl : n = l.length) (hc : cs = u8s l) (hG : setF F k (rB v l) = some G) : Ent F G := by
  subst hl; subst hc; exact ent_set k hk (fun _ h => h) hG
theorem vlB {b : World} {F : List SP} {v : Value} {l : List Int} {k : Nat} (hk : nth F k = some (rB v l)) : ∀ w, Sat b F w → VL (Value.int .u8) w v l := fun w H => (H.oat hk).sl
theorem vl1 {b : World} {F : List SP} {g t : Nat} {l : List Int} {n k : Nat} (hn : n = l.length) (hm : n ≤ 67108864) (hk : nth F k = some (pt g t (u8s l))) : ∀ w, Sat b F w → VL (Value.int .u8) w (.slice (some ⟨g, 0, none⟩) n n) l := fun w H => by
  subst hn
  exact (H.blk hk).sl (by simp) hm

theorem u8s_len (l : List Int) : (u8s l).length = l.length := by simp [u8s]
def zeroN (l : List Int) : Nat := (120 - (l.length + 1) % 64) % 64
def lenB (n : Int) (i : Nat) : Int := IntKind.u8.wrap ((IntKind.u64.wrap (IntKind.u64.wrap n * 8)).fdiv (2 ^ (56 - 8 * i)))
def lenL (n : Int) (i : Nat) : List Int := (List.range i).map (lenB n)
def endM (l : List Int) (n : Int) : List Int := l ++ [128] ++ List.replicate (zeroN l) 0 ++ lenL n 8
def idB (a : List Int) (i : Nat) : Int := IntKind.u8.wrap ((a.getD (i / 4) 0).fdiv (2 ^ (24 - 8 * (i % 4))))
def idM (a : List Int) : List Int := (List.range 32).map (idB a)
def idP (a : List Int) (i : Nat) : List Int := (List.range i).map (idB a) ++ List.replicate (32 - i) 0
theorem idP_len (a : List Int) (i : Nat) (h : i ≤ 32) : (idP a i).length = 32 := by simp [idP]; omega
theorem idP_set (a : List Int) (i : Nat) (h : i < 32) : (u8s (idP a i)).set i (.int .u8 (idB a i)) = u8s (idP a (i + 1)) := by
  have e : 32 - i = (32 - (i + 1)) + 1 := by omega
  simp only [u8s, ← List.map_set, idP]
  rw [List.set_append_right _ _ (by simp), e, List.replicate_succ, List.range_succ]
  simp
theorem idP_end (a : List Int) : idP a 32 = idM a := by simp [idP, idM]
theorem endM_len (l : List Int) (n : Int) : (endM l n).length % 64 = 0 ∧ (endM l n).length ≤ l.length + 80 := by
  simp only [endM, lenL, zeroN, List.length_append, List.length_replicate, List.length_map, List.length_range, List.length_cons, List.length_nil]
  omega
def sumA (a l : List Int) (n : Int) : List Int := (absorb (endM l n).length a (endM l n)).1
abbrev idV (l : List Int) : Value := .agg ⟨u8s l⟩
theorem tmod64 (k : Nat) : Int.tmod (k : Int) 64 = ((k % 64 : Nat) : Int) := by
  rw [Int.tmod_eq_emod_of_nonneg (by omega)]; omega
theorem hCw {a : List Int} {r : Value} {n : Int} {m : Bool} (h : a.length = 8) : segO (hashC a r n m) 0 8 = some (u32s a) := by
  match a, h with
  | [_, _, _, _, _, _, _, _], _ => rfl
theorem u32nth {a : List Int} {j : Nat} (h : j < a.length) : nth (u32s a) j = some (.int .u32 (a.getD j 0)) := by rw [nth_eq]; exact u32s_get a j h
theorem stO_ok {cs r : List Value} {o : Nat} {v : Value} (h : o < cs.length) (hr : cs.set o v = r) : stO cs o v = some r := by
  subst hr
  induction cs generalizing o with
  | nil => simp at h
  | cons c cs ih =>
    cases o with
    | zero => rfl
    | succ o => simp only [stO, ih (by simpa using h)]; rfl
theorem segO_all {cs : List Value} {n : Nat} (h : n = cs.length) : segO cs 0 n = some cs := by
  subst h
  induction cs with
  | nil => rfl
  | cons c cs ih => simp only [List.length_cons, segO, ih]

end Go.Proofs.YtmeiadgpglpelaaGreat
/- Digests, part ten: the digest of what was written: the walk. Conditions: not too many bytes. -/
namespace Go.Proofs.YtmeiadgpglpelaaGreat
open Go.Eng Go.RowKit

theorem hSum_S {b : World} {F : List SP} {g : Nat} {a rs : List Int} {r : Value} {n : Int} (ha : a.length = 8) (hlen : rs.length ≤ 1000000) :
    SC Tryz.prog n_p_sha_Hash_Sum [.pointer (some ⟨g, 0, none⟩)] b (pt g t_sha_Hash (hashC a r n true) :: rB r rs :: F) (fun v F' => v = .tuple ⟨[idV (idM (sumA a rs n)), .int .i64 0]⟩ ∧ F' = pt g t_sha_Hash (hashC a r n true) :: rB r rs :: F) := by
  have ha8 : (u32s a).length = 8 := by rw [u32s_len, ha]
  refine enterS F_p_sha_Hash_Sum rfl rfl rfl ?_
  (refine sw_seq (sw_region ?_))
  refine so_new rfl rfl rfl rfl rfl fun gi => ?_
  (refine so_1 rfl ?_; refine so_nil (sn_then ?_); (iterate 2 refine sw_seq ?_); refine sw_region ?_; refine so_1 rfl ?_)
  refine so_callE rfl rfl rfl (SC.ofEq fun w H => none_spec (H.blk (k := 1) rfl) ha) ?_
  (refine so_nil (sn_then ?_); refine sw_cond_f rfl ?_; refine sw_skip ?_; refine sn_then ?_; refine sw_seq (sw_region ?_); (iterate 3 refine so_1 rfl ?_))
  refine so_ldA 1 rfl rfl rfl rfl rfl rfl (hCw ha) rfl ?_
  refine so_new rfl rfl rfl rfl rfl fun ga => ?_
  refine so_stW 0 rfl rfl rfl rfl rfl rfl rfl (by rw [ha8]; rfl) (u32s_one _) (by rw [ha8]; rfl) ?_
  (refine so_nil (sn_then ?_); refine sw_seq (sw_region ?_); (iterate 3 refine so_1 rfl ?_))
  refine so_ld 2 rfl rfl rfl rfl rfl rfl (hC8 ha) rfl ?_
  refine so_call rfl rfl rfl (SC.ofMade fun w H => Clone_spec (vlB (k := 3) rfl w H) (by omega)) ?_
  rintro v4 _ rfl
  refine so_lit [.int .u8 128] rfl rfl rfl rfl rfl rfl rfl rfl rfl fun gl => ?_
  refine so_append 1 rfl rfl rfl rfl rfl rfl rfl rfl rfl (vl1 (l := [128]) (k := 0) rfl (by decide) rfl) (u8s_one [128]) (by simp; omega) (fun _ => rfl) fun v5 => ?_
  refine so_ent ((ent_rB (l := rs ++ [128]) 1 rfl (by simp) (by simp) rfl).trans (ent_keep 6 [1, 2, 3, 4, 5] rfl rfl)) ?_
  (refine so_1 rfl ?_; refine so_nil (sn_then ?_); refine sw_seq ?_; refine sw_block ?_)
  -- zeros
  refine sw_loop (S := Nat × Value) (fun s => [(0, .pointer (some ⟨g, 0, none⟩)), (2, .pointer (some ⟨gi, 0, none⟩)), (4, .pointer (some ⟨ga, 0, none⟩)), (5, s.2)])
    (fun s => rB s.2 (rs ++ [128] ++ List.replicate s.1 0) :: pt ga t_sha_words (u32s a) :: pt gi t_api_ID (u8s (List.replicate 32 0)) :: pt g t_sha_Hash (hashC a r n true) :: rB r rs :: F)
    (fun s => s.1 ≤ zeroN rs) (fun s => zeroN rs - s.1) (0, v5) ⟨rfl, rfl, rfl, rfl, trivial⟩ (ent_rB 0 rfl (by simp) (by simp) rfl) (Nat.zero_le _) ?_
  rintro ⟨k, v⟩ hk
  dsimp only at hk ⊢
  have hL : (rs ++ [128] ++ List.replicate k 0).length = rs.length + 1 + k := by simp; omega
  have hz : zeroN rs = (120 - (rs.length + 1) % 64) % 64 := rfl
  refine sw_fact (fun w H => (H.oat (k := 0) rfl).form) ?_
  rintro ⟨A7, c7, rfl, _, _, _⟩
  ((iterate 2 refine sw_seq ?_); refine sw_region ?_; (iterate 2 refine so_1 rfl ?_); refine so_2 rfl (by omega) ?_; refine so_1 rfl ?_; refine so_nil (sn_then ?_))
  refine sw_ifn rfl (fun h => ?_) (fun h => ?_) <;> rw [tmod64] at h
  · (refine sw_skip ?_; refine sn_then ?_; refine sw_block ?_; refine sw_region ?_; refine so_1 rfl ?_)
    refine so_lit [.int .u8 0] rfl rfl rfl rfl rfl rfl rfl rfl rfl fun gl => ?_
    refine so_append 1 rfl rfl rfl rfl rfl rfl rfl rfl rfl (vl1 (l := [0]) (k := 0) rfl (by decide) rfl) (u8s_one [0]) (by simp; omega) (fun _ => rfl) fun v8 => ?_
    refine so_ent ((ent_rB (l := rs ++ [128] ++ List.replicate (k + 1) 0) 1 rfl (by simp; omega) (by rw [List.replicate_succ']; simp) rfl).trans (ent_keep 6 [1, 2, 3, 4, 5] rfl rfl)) ?_
    (refine so_1 rfl ?_; refine so_nil ?_; refine sn_block ?_)
    refine sn_round (k + 1, v8) ⟨rfl, rfl, rfl, rfl, trivial⟩ (Ent.refl _) ?_ ?_
    · show k + 1 ≤ zeroN rs
      omega
    · show zeroN rs - (k + 1) < zeroN rs - k
      omega
  have h' : (rs ++ [128] ++ List.replicate k 0).length % 64 = 56 := by omega
  rw [hL] at h'
  obtain rfl : k = zeroN rs := by omega
  (refine sw_exit ?_; refine sn_then_exit ?_; refine sn_loop_exit ?_; refine sn_block_exit ?_; refine sn_then ?_; (iterate 2 refine sw_seq ?_); refine sw_region ?_; refine so_1 rfl ?_; refine so_nil (sn_then ?_); refine sw_block ?_)
  -- the length
  generalize hP : rs ++ [128] ++ List.replicate (zeroN rs) 0 = p at *
  have hend : endM rs n = p ++ lenL n 8 := by rw [endM, hP]
  have hpl : p.length ≤ 1000100 := by omega
  refine sw_loop (S := Nat × Value) (fun s => [(0, .pointer (some ⟨g, 0, none⟩)), (2, .pointer (some ⟨gi, 0, none⟩)), (4, .pointer (some ⟨ga, 0, none⟩)), (5, s.2), (29, .int .i64 (s.1 : Int))])
    (fun s => rB s.2 (p ++ lenL n s.1) :: pt ga t_sha_words (u32s a) :: pt gi t_api_ID (u8s (List.replicate 32 0)) :: pt g t_sha_Hash (hashC a r n true) :: rB r rs :: F)
    (fun s => s.1 ≤ 8) (fun s => 8 - s.1) (0, .slice A7 p.length c7) ⟨rfl, rfl, rfl, rfl, rfl, trivial⟩ (ent_rB 0 rfl (by simp [lenL]) (by simp [lenL]) rfl) (Nat.zero_le _) ?_
  rintro ⟨k, v⟩ hk
  dsimp only at hk ⊢
  have hLL : ∀ j, (lenL n j).length = j := fun j => by simp [lenL]
  (refine sw_seq (sw_region ?_); refine so_1 rfl ?_; refine so_nil (sn_then ?_); refine sw_seq ?_)
  refine sw_if rfl (fun h => ?_) (fun h => ?_)
  · (refine sw_skip ?_; refine sn_then ?_; refine sw_seq ?_; refine sw_block ?_; refine sw_seq (sw_region ?_); (iterate 2 refine so_1 rfl ?_); refine so_nil (sn_then ?_); refine sw_region ?_; (iterate 4 refine so_1 rfl ?_))
    refine so_ld 3 rfl rfl rfl rfl rfl rfl (hC9 ha) rfl ?_
    ((iterate 3 refine so_1 rfl ?_); (iterate 2 refine so_2 rfl (by (unfold I64; omega)) ?_); refine so_2 rfl (by omega) ?_; refine so_1 rfl ?_)
    have e : min (56 - 8 * (k : Int)).toNat IntKind.u64.bits = 56 - 8 * k := by
      show min _ 64 = _
      omega
    refine so_know 43 (.int .u8 (lenB n k)) rfl (by rw [lenB, e]) ?_
    refine so_lit [.int .u8 (lenB n k)] rfl rfl rfl rfl rfl rfl rfl rfl rfl fun gl => ?_
    refine so_append 1 rfl rfl rfl rfl rfl rfl rfl rfl rfl (vl1 (l := [lenB n k]) (k := 0) rfl (by decide) rfl) (u8s_one [lenB n k]) (by simp [hLL]; omega) (fun _ => rfl) fun v8 => ?_
    refine so_ent ((ent_rB (l := p ++ lenL n (k + 1)) 1 rfl (by simp [hLL]; omega) (by simp [lenL, List.range_succ]) rfl).trans (ent_keep 6 [1, 2, 3, 4, 5] rfl rfl)) ?_
    (refine so_1 rfl ?_; refine so_nil ?_; refine sn_block ?_; refine sn_then ?_; refine sw_region ?_; refine so_2 rfl (by (unfold I64; omega)) ?_; refine so_1 rfl ?_; refine so_nil ?_)
    refine sn_round (k + 1, v8) ⟨rfl, rfl, rfl, rfl, rfl, trivial⟩ (Ent.refl _) ?_ ?_
    · show k + 1 ≤ 8
      omega
    · show 8 - (k + 1) < 8 - k
      omega
  obtain rfl : k = 8 := by omega
  (refine sw_exit ?_; refine sn_then_exit ?_; refine sn_loop_exit ?_; refine sn_block_exit ?_; refine sn_then ?_; refine sw_seq ?_; refine sw_block ?_)
  rw [← hend]
  have hEL := endM_len rs n
  generalize hE : endM rs n = l0 at *
  -- taken in
  refine sw_loop (S := List Int × List Int × Value) (fun s => [(0, .pointer (some ⟨g, 0, none⟩)), (2, .pointer (some ⟨gi, 0, none⟩)), (4, .pointer (some ⟨ga, 0, none⟩)), (5, s.2.2)])
    (fun s => rB s.2.2 s.2.1 :: pt ga t_sha_words (u32s s.1) :: pt gi t_api_ID (u8s (List.replicate 32 0)) :: pt g t_sha_Hash (hashC a r n true) :: rB r rs :: F)
    (fun s => s.1.length = 8 ∧ s.2.1.length % 64 = 0 ∧ s.2.1.length ≤ 1000100 ∧ ∃ k, s.2.1.length ≤ k ∧ absorb k s.1 s.2.1 = absorb l0.length a l0) (fun s => s.2.1.length) (a, l0, v) ⟨rfl, rfl, rfl, rfl, trivial⟩ (Ent.refl _)
    ⟨ha, hEL.1, by dsimp only; omega, l0.length, Nat.le_refl _, rfl⟩ ?_
  rintro ⟨a', l, r2⟩ ⟨ha', hl64, hl, k, hk, hab⟩
  dsimp only at ha' hl hk hab hl64 ⊢
  refine sw_fact (fun w H => (H.oat (k := 0) rfl).form) ?_
  rintro ⟨A2, c2, rfl, hc1, hc2, hc3⟩
  ((iterate 2 refine sw_seq ?_); refine sw_region ?_; (iterate 3 refine so_1 rfl ?_); refine so_nil (sn_then ?_))
  refine sw_if rfl (fun h => ?_) (fun h => ?_)
  · have h64 : 64 ≤ l.length := by omega
    obtain ⟨g2, off2, rfl⟩ := hc3 (by omega)
    have htk : (u8s l).take (64 * 1) = u8s (l.take 64) := by simp [u8s, List.map_take]
    have hdk : (u8s l).drop (64 * 1) = u8s (l.drop 64) := by simp [u8s, List.map_drop]
    have ht64 : (l.take 64).length = 64 := by simp; omega
    (refine sw_skip ?_; refine sn_then ?_; refine sw_seq ?_; refine sw_block ?_; refine sw_region ?_; refine so_1 rfl ?_; refine so_2 rfl (by omega) ?_)
    refine so_ent (ent_keep 3 [1, 0, 2] rfl rfl) ?_
    refine so_call rfl rfl rfl (block_S0 (A := a') (l := l.take 64) (fun w H => ?_) (by omega) ha') ?_
    · have := (Oat.take (H.oat (k := 1) rfl) (k := 64) h64).sl
      rw [htk] at this
      unfold VL; rw [ht64]; exact this
    rintro _ _ rfl
    have hb8 := blockM_len a' (l.take 64)
    (refine so_nil ?_; refine sn_block ?_; refine sn_then ?_; refine sw_region ?_; refine so_1 rfl ?_; refine so_2 rfl (by omega) ?_; refine so_1 rfl ?_; refine so_nil ?_)
    refine sn_ent (ent_row_drop (j := 64) h64 1 rfl rfl rfl) ?_
    rw [hdk]
    refine sn_round (blockM a' (l.take 64), l.drop 64, .slice (if c2 = 64 then some ⟨g2, off2, none⟩ else (some ⟨g2, off2, none⟩ : Option Addr).map (·.add (64 * 1))) (l.length - 64) (c2 - 64)) ⟨rfl, rfl, rfl, rfl, trivial⟩ ?_ ?_ ?_
    · exact (ent_rB (l := l.drop 64) 1 rfl (by simp) rfl rfl).trans (ent_keep 3 [1, 0, 2] rfl rfl)
    · refine ⟨hb8, by simp; omega, by simp; omega, ?_⟩
      cases k with
      | zero => omega
      | succ k =>
        refine ⟨k, by simp; omega, ?_⟩
        rw [← hab]
        show _ = absorb (k + 1) a' l
        rw [absorb, if_pos h64]
    · show (l.drop 64).length < l.length
      simp; omega
  have hl0 : l.length < 64 := by omega
  have he := absorb_end k a' l hl0
  rw [hab] at he
  have hsum : sumA a rs n = a' := by rw [sumA, hE, he]
  rw [hsum]
  (refine sw_exit ?_; refine sn_then_exit ?_; refine sn_loop_exit ?_; refine sn_block_exit ?_; refine sn_then ?_; (iterate 2 refine sw_seq ?_); refine sw_region ?_; refine so_1 rfl ?_; refine so_nil (sn_then ?_); refine sw_block ?_)
  -- the digest
  refine sw_loop (S := Nat) (fun s => [(0, .pointer (some ⟨g, 0, none⟩)), (2, .pointer (some ⟨gi, 0, none⟩)), (4, .pointer (some ⟨ga, 0, none⟩)), (55, .int .i64 (s : Int))])
    (fun s => pt ga t_sha_words (u32s a') :: pt gi t_api_ID (u8s (idP a' s)) :: pt g t_sha_Hash (hashC a r n true) :: rB r rs :: F)
    (fun s => s ≤ 32) (fun s => 32 - s) 0 ⟨rfl, rfl, rfl, rfl, trivial⟩ (ent_keep 3 [1, 2] rfl rfl) (Nat.zero_le _) ?_
  intro i hi
  have hpl := idP_len a' i hi
  (refine sw_seq (sw_region ?_); refine so_1 rfl ?_; refine so_nil (sn_then ?_); refine sw_seq ?_)
  refine sw_if rfl (fun h => ?_) (fun h => ?_)
  · (refine sw_skip ?_; refine sn_then ?_; refine sw_seq ?_; refine sw_block ?_; refine sw_seq (sw_region ?_); (iterate 2 refine so_1 rfl ?_); refine so_nil (sn_then ?_); refine sw_region ?_; (iterate 2 refine so_1 rfl ?_); refine so_2 rfl (by omega) ?_)
    have htd : IntKind.i64.wrap ((i : Int).tdiv 4) = ((i / 4 : Nat) : Int) := by
      rw [Int.tdiv_eq_ediv_of_nonneg (by omega), I64.wrap (by unfold I64; omega)]; omega
    have htm : (i : Int).tmod 4 = ((i % 4 : Nat) : Int) := by
      rw [Int.tmod_eq_emod_of_nonneg (by omega)]; omega
    refine so_ix (i / 4) rfl rfl rfl htd (by omega) ?_
    refine so_ld 0 rfl rfl rfl rfl rfl rfl (by rw [mulz_eq]; simpa using u32nth (a := a') (j := i / 4) (by omega)) rfl ?_
    (refine so_1 rfl ?_; refine so_2 rfl (by omega) ?_; (iterate 2 refine so_2 rfl (by (unfold I64; omega)) ?_); refine so_2 rfl (by omega) ?_; refine so_1 rfl ?_; refine so_2 rfl (by omega) ?_)
    have e : min (24 - 8 * ((i % 4 : Nat) : Int)).toNat IntKind.u32.bits = 24 - 8 * (i % 4) := by
      show min _ 32 = _
      omega
    refine so_know 68 (.int .u8 (idB a' i)) rfl (by simp only [htm, e, idB, List.getD_eq_getElem?_getD]) ?_
    skip
    refine so_st 1 rfl rfl rfl rfl rfl rfl rfl rfl (stO_ok (r := u8s (idP a' (i + 1))) (by rw [mulz_eq]; simp [hpl]; omega) (by rw [mulz_eq]; simpa using idP_set a' i (by omega))) rfl ?_
    (refine so_nil ?_; refine sn_block ?_; refine sn_then ?_; refine sw_region ?_; refine so_2 rfl (by (unfold I64; omega)) ?_; refine so_1 rfl ?_; refine so_nil ?_)
    refine sn_round (i + 1) ⟨rfl, rfl, rfl, rfl, trivial⟩ (Ent.refl _) ?_ ?_
    · show i + 1 ≤ 32
      omega
    · show 32 - (i + 1) < 32 - i
      omega
  obtain rfl : i = 32 := by omega
  rw [idP_end] at *
  generalize idM a' = dg at *
  (refine sw_exit ?_; refine sn_then_exit ?_; refine sn_loop_exit ?_; refine sn_block_exit ?_; refine sn_then ?_; refine sw_seq (sw_region ?_))
  have hseg : segO (u8s dg) 0 32 = some (u8s dg) := segO_all (by simp [hpl])
  refine so_ldA 1 rfl rfl rfl rfl rfl rfl hseg rfl ?_
  refine so_stW 1 rfl rfl rfl rfl rfl rfl rfl (by rw [u8s_len, hpl]; rfl) (u8s_one _) rfl ?_
  (refine so_1 rfl ?_; refine so_nil (sn_then ?_); refine sw_ret ?_)
  refine sn_ret rfl (.whole 1 rfl rfl rfl rfl (by rw [u8s_len, hpl]; rfl) (.tmp rfl .nil)) (ent_keep 2 [] rfl rfl) ?_
  exact ⟨rfl, rfl⟩
end Go.Proofs.YtmeiadgpglpelaaGreat
/- Digests, part eleven: Sum, Cut, Of, Has, Compare. Conditions: not too many bytes. -/
namespace Go.Proofs.YtmeiadgpglpelaaGreat
open Go.Eng Go.RowKit

instance : EqT Tryz.prog t_api_ID := ⟨by kernel_rfl⟩
instance : ArrI Tryz.prog t_api_ID 32 .u8 := by
  obtain ⟨j, hj, hs, _⟩ := TT.info (P := Tryz.prog) t_uint8 _ rfl
  exact ⟨⟨t_uint8, j, by kernel_rfl, by kernel_rfl, hj, hs⟩⟩

/-- The digest of bytes. -/
def sumM (xs : List Int) : List Int := idM (sumA (absorb xs.length beginL xs).1 (absorb xs.length beginL xs).2 xs.length)
theorem sumM_len (xs : List Int) : (sumM xs).length = 32 := by simp [sumM, idM]
theorem absorb_len (k : Nat) (a l : List Int) (ha : a.length = 8) : (absorb k a l).1.length = 8 ∧ (absorb k a l).2.length ≤ l.length := by
  induction k generalizing a l with
  | zero => exact ⟨ha, Nat.le_refl _⟩
  | succ k ih =>
    rw [absorb]
    split
    · have := ih (blockM a (l.take 64)) (l.drop 64) (blockM_len _ _)
      refine ⟨this.1, Nat.le_trans this.2 (by simp)⟩
    · exact ⟨ha, Nat.le_refl _⟩

theorem segID {l : List Int} (h : l.length = 32) : segO (u8s l) 0 32 = some (u8s l) := segO_all (by simp [h])
theorem Sum_S {b : World} {F : List SP} {vb : Value} {xs : List Int} (hlen : xs.length ≤ 1000000) (hb : ∀ w, Sat b F w → VL (Value.int .u8) w vb xs) :
    SC Tryz.prog n_sha_Sum [vb] b F (fun v F' => v = idV (sumM xs) ∧ F' = F) := by
  have hsl := sumM_len xs
  have hd : sumM xs = idM (sumA (absorb xs.length beginL xs).1 (absorb xs.length beginL xs).2 xs.length) := rfl
  have hal := absorb_len xs.length beginL xs rfl
  refine enterS F_sha_Sum rfl rfl rfl ?_
  (refine sw_seq (sw_region ?_))
  refine so_new rfl rfl rfl rfl rfl fun gi => ?_
  (refine so_nil (sn_then ?_); refine sw_seq (sw_region ?_))
  refine so_call rfl rfl rfl (New_S) ?_
  rintro _ _ ⟨g, rfl, rfl⟩
  (refine so_1 rfl ?_; refine so_nil (sn_then ?_); refine sw_seq (sw_region ?_); (iterate 2 refine so_1 rfl ?_))
  refine so_call rfl rfl rfl (Write_S (F := pt gi t_api_ID (u8s (List.replicate 32 0)) :: F) (a := beginL) (rs := []) (n := 0) (xs := xs) rfl (by omega) (by simp; omega) (up hb (ent_keep 1 [] rfl rfl))) ?_
  rintro _ _ ⟨rfl, r', rfl⟩
  (refine so_nil (sn_then ?_); refine sw_seq (sw_region ?_); refine so_1 rfl ?_)
  have e0 : ([] : List Int).length + xs.length = xs.length := by simp
  have e1 : (0 : Int) + xs.length = xs.length := by simp
  simp only [e0, e1, List.nil_append] at *
  refine so_call rfl rfl rfl (hSum_S hal.1 (by omega)) ?_
  rintro _ _ ⟨rfl, rfl⟩
  rw [← hd]
  generalize sumM xs = d at *
  ((iterate 3 refine so_1 rfl ?_))
  refine so_new rfl rfl rfl rfl rfl fun g4 => ?_
  skip
  refine so_stW 0 rfl rfl rfl rfl rfl rfl rfl (by rw [u8s_len, hsl]; rfl) (u8s_one _) (by simp [hsl]) ?_
  (refine so_1 rfl ?_; refine so_nil (sn_then ?_); refine sw_seq (sw_region ?_))
  refine so_ldA 0 rfl rfl rfl rfl rfl rfl (segID hsl) rfl ?_
  refine so_stW 3 rfl rfl rfl rfl rfl rfl rfl (by rw [u8s_len, hsl]; rfl) (u8s_one _) (by simp [hsl]) ?_
  (refine so_nil (sn_then ?_); refine sw_ret ?_)
  refine sn_ret rfl (.whole 3 rfl rfl rfl rfl (by rw [u8s_len, hsl]; rfl) .nil) (ent_keep 4 [] rfl rfl) ?_
  exact ⟨rfl, rfl⟩

/-- Cut to a width. -/
def cutM (l : List Int) (n : Nat) : List Int := l.take n ++ List.replicate (32 - n) 0
theorem cutM_len (l : List Int) (n : Nat) (h : l.length = 32) (hn : n ≤ 32) : (cutM l n).length = 32 := by simp [cutM, h]; omega
def cutR (l : List Int) (w : Int) : List Int := if w < 1 ∨ 32 < w then List.replicate 32 0 else cutM l w.toNat
def cutE (w : Int) : Int := if w < 1 ∨ 32 < w then 3 else 0
theorem cutR_len (l : List Int) (w : Int) (h : l.length = 32) : (cutR l w).length = 32 := by
  unfold cutR; split
  · simp
  · exact cutM_len l _ h (by omega)
theorem Cut_S {b : World} {F : List SP} {l : List Int} {w : Int} (hl : l.length = 32) :
    SC Tryz.prog n_sha_Cut [idV l, .int .i64 w] b F (fun v F' => v = .tuple ⟨[idV (cutR l w), .int .i64 (cutE w)]⟩ ∧ F' = F) := by
  refine enterS F_sha_Cut rfl rfl rfl ?_
  (refine sw_seq (sw_region ?_))
  refine so_box rfl rfl rfl rfl rfl fun g2 => ?_
  refine so_new rfl rfl rfl rfl rfl fun g4 => ?_
  (refine so_1 rfl ?_; refine so_nil (sn_then ?_); (iterate 2 refine sw_seq ?_); refine sw_region ?_; (iterate 3 refine so_1 rfl ?_))
  refine so_if 8 rfl (fun h => ?_) (fun h => ?_)
  · ((iterate 3 refine so_1 rfl ?_); refine so_nil (sn_then ?_); refine sw_cond_t rfl ?_; refine sw_seq (sw_region ?_); refine so_1 rfl ?_; refine so_s1 0 rfl rfl rfl rfl ?_; refine so_1 rfl ?_; refine so_nil (sn_then ?_); refine sw_ret ?_; refine sn_then_ret ?_)
    refine sn_ret rfl (.agg 0 rfl rfl rfl rfl rfl (.tmp rfl .nil)) (ent_keep 2 [] rfl rfl) ?_
    exact ⟨by rw [cutR, cutE, if_pos (.inl h), if_pos (.inl h)]; rfl, rfl⟩
  ((iterate 3 refine so_1 rfl ?_); refine so_nil (sn_then ?_))
  refine sw_if rfl (fun h' => ?_) (fun h' => ?_)
  · (refine sw_seq (sw_region ?_); refine so_1 rfl ?_; refine so_s1 0 rfl rfl rfl rfl ?_; refine so_1 rfl ?_; refine so_nil (sn_then ?_); refine sw_ret ?_; refine sn_then_ret ?_)
    refine sn_ret rfl (.agg 0 rfl rfl rfl rfl rfl (.tmp rfl .nil)) (ent_keep 2 [] rfl rfl) ?_
    exact ⟨by rw [cutR, cutE, if_pos (.inr h'), if_pos (.inr h')]; rfl, rfl⟩
  (refine sw_skip ?_; refine sn_then ?_; refine sw_seq (sw_region ?_); refine so_1 rfl ?_; refine so_2 rfl (by omega) ?_)
  have hw : (32 - w.toNat : Nat) ≤ 32 := by omega
  have hcut : spl (u8s l) (if 32 = w.toNat then 0 else 0 + w.toNat * 1) (List.replicate (((32 : Nat) : Int).toNat - w.toNat) (.int .u8 0)) = u8s (cutM l w.toNat) := by
    by_cases h32 : 32 = w.toNat
    · rw [if_pos h32, ← h32]; simp [spl, cutM, u8s, hl]; rw [List.take_of_length_le (by simp [hl])]
    · rw [if_neg h32]
      have e1 : 0 + w.toNat * 1 = w.toNat := by omega
      have e2 : ((32 : Nat) : Int).toNat - w.toNat = 32 - w.toNat := by omega
      have e3 : w.toNat + (32 - w.toNat) = 32 := by omega
      rw [e1, e2]
      simp [spl, cutM, u8s, e3, hl]
  refine so_clear 1 rfl rfl rfl rfl rfl rfl rfl rfl (by simp [hl]; split <;> omega) ?_
  rw [hcut]
  have hcl := cutM_len l w.toNat hl (by omega)
  have hR : cutR l w = cutM l w.toNat := by rw [cutR, if_neg (by omega)]
  have hE : cutE w = 0 := by rw [cutE, if_neg (by omega)]
  rw [hR, hE]
  generalize cutM l w.toNat = d at *
  (refine so_nil (sn_then ?_); refine sw_seq (sw_region ?_))
  refine so_ldA 1 rfl rfl rfl rfl rfl rfl (segID hcl) rfl ?_
  refine so_stW 0 rfl rfl rfl rfl rfl rfl rfl (by rw [u8s_len, hcl]; rfl) (u8s_one _) (by simp [hcl]) ?_
  (refine so_1 rfl ?_; refine so_nil (sn_then ?_); refine sw_ret ?_)
  refine sn_ret rfl (.whole 0 rfl rfl rfl rfl (by rw [u8s_len, hcl]; rfl) (.tmp rfl .nil)) (ent_keep 2 [] rfl rfl) ?_
  exact ⟨rfl, rfl⟩

theorem Of_S {b : World} {F : List SP} {vb : Value} {xs : List Int} {w : Int} (hlen : xs.length ≤ 1000000) (hb : ∀ w, Sat b F w → VL (Value.int .u8) w vb xs) :
    SC Tryz.prog n_sha_Of [vb, .int .i64 w] b F (fun v F' => v = .tuple ⟨[idV (cutR (sumM xs) w), .int .i64 (cutE w)]⟩ ∧ F' = F) := by
  have hcl := cutR_len (sumM xs) w (sumM_len xs)
  refine enterS F_sha_Of rfl rfl rfl ?_
  (refine sw_seq (sw_region ?_))
  refine so_new rfl rfl rfl rfl rfl fun g4 => ?_
  (refine so_1 rfl ?_; refine so_nil (sn_then ?_); refine sw_seq (sw_region ?_); refine so_1 rfl ?_)
  refine so_callE rfl rfl rfl (Sum_S hlen (up hb (ent_keep 1 [] rfl rfl))) ?_
  (refine so_1 rfl ?_)
  refine so_callE rfl rfl rfl (Cut_S (sumM_len xs)) ?_
  generalize cutR (sumM xs) w = d at *
  ((iterate 2 refine so_1 rfl ?_))
  refine so_stW 0 rfl rfl rfl rfl rfl rfl rfl (by rw [u8s_len, hcl]; rfl) (u8s_one _) (by simp [hcl]) ?_
  (refine so_1 rfl ?_; refine so_nil (sn_then ?_); refine sw_ret ?_)
  refine sn_ret rfl (.whole 0 rfl rfl rfl rfl (by rw [u8s_len, hcl]; rfl) (.tmp rfl .nil)) (ent_keep 1 [] rfl rfl) ?_
  exact ⟨rfl, rfl⟩

/-- Has a digest a width? -/
def hasM (l : List Int) (w : Int) : Bool := decide (cutE w = 0) && decide (cutR l w = l)
theorem Has_S {b : World} {F : List SP} {l : List Int} {w : Int} (hl : l.length = 32) :
    SC Tryz.prog n_sha_Has [idV l, .int .i64 w] b F (fun v F' => v = .bool (hasM l w) ∧ F' = F) := by
  have hcl := cutR_len l w hl
  refine enterS F_sha_Has rfl rfl rfl ?_
  (refine sw_seq (sw_region ?_))
  refine so_box rfl rfl rfl rfl rfl fun g2 => ?_
  (refine so_1 rfl ?_; refine so_nil (sn_then ?_); refine sw_seq (sw_region ?_))
  refine so_ldA 0 rfl rfl rfl rfl rfl rfl (segID hl) rfl ?_
  (refine so_1 rfl ?_)
  refine so_callE rfl rfl rfl (Cut_S hl) ?_
  unfold hasM
  generalize cutR l w = d at *
  ((iterate 3 refine so_1 rfl ?_))
  refine so_new rfl rfl rfl rfl rfl fun g5 => ?_
  refine so_stW 0 rfl rfl rfl rfl rfl rfl rfl (by rw [u8s_len, hcl]; rfl) (u8s_one _) (by simp [hcl]) ?_
  (refine so_1 rfl ?_; refine so_nil (sn_then ?_); refine sw_seq (sw_region ?_); (iterate 3 refine so_1 rfl ?_))
  refine so_if 15 rfl (fun h => ?_) (fun h => ?_)
  · skip
    refine so_ldA 0 rfl rfl rfl rfl rfl rfl (segID hcl) rfl ?_
    refine so_ldA 1 rfl rfl rfl rfl rfl rfl (segID hl) rfl ?_
    refine so_pu rfl (pu_eqI (as00 := d) (bs := l) rfl rfl hcl hl) rfl ?_
    ((iterate 2 refine so_1 rfl ?_); refine so_nil (sn_then ?_); refine sw_ret ?_)
    refine sn_ret rfl (.tmp rfl .nil) (ent_keep 2 [] rfl rfl) ?_
    exact ⟨by simp [h, tupl], rfl⟩
  · ((iterate 5 refine so_1 rfl ?_); refine so_nil (sn_then ?_); refine sw_ret ?_)
    refine sn_ret rfl (.tmp rfl .nil) (ent_keep 2 [] rfl rfl) ?_
    exact ⟨by simp [h, tupl], rfl⟩
end Go.Proofs.YtmeiadgpglpelaaGreat
/- Digests, part twelve: texts, and which digest is less. Conditions: cells are bytes. -/
namespace Go.Proofs.YtmeiadgpglpelaaGreat
open Go.Eng Go.RowKit

def byteW (l : List Int) : Prop := ∀ c ∈ l, 0 ≤ c ∧ c < 256
end Go.Proofs.YtmeiadgpglpelaaGreat
/- Digests, part thirteen: what a text is; which digest is less. Conditions: cells are bytes. -/
namespace Go.Proofs.YtmeiadgpglpelaaGreat
open Go.Eng Go.RowKit

abbrev u8l (xs : List Int) : List UInt8 := xs.map fun n => UInt8.ofNat n.toNat
theorem bCompare_S {b : World} {F : List SP} {va vb : Value} {xs ys : List Int} (ha : ∀ w, Sat b F w → VL (Value.int .u8) w va xs) (hb : ∀ w, Sat b F w → VL (Value.int .u8) w vb ys) :
    SC Tryz.prog n_bytes_Compare [va, vb] b F (fun v F' => v = .int .i64 (Lib.compareBytes (u8l xs) (u8l ys)) ∧ F' = F) := by
  refine enterS F_bytes_Compare rfl rfl rfl ?_
  (refine sw_seq (sw_region ?_); refine so_1 rfl ?_; refine so_nil (sn_then ?_); refine sw_seq (sw_region ?_); (iterate 2 refine so_1 rfl ?_))
  refine so_extern rfl rfl rfl (fun w H => run_cmp F_internal_bytealg_Compare (by kernel_rfl) (by kernel_rfl) (by kernel_rfl) (by kernel_rfl) (ha w H) (hb w H)) ?_
  (refine so_1 rfl ?_; refine so_nil (sn_then ?_); refine sw_ret ?_)
  refine sn_ret rfl (.tmp rfl .nil) (Ent.refl _) ?_
  exact ⟨rfl, rfl⟩

/-- A digit's number, below 0 if it is none. -/
def dig (c : Int) : Int := if 48 ≤ c ∧ c ≤ 57 then c - 48 else if 97 ≤ c ∧ c ≤ 102 then c - 87 else -1
/-- What a text is. -/
def readB (s : List Int) (i : Nat) : Int := 16 * dig (s.getD (2 * i) 0) + dig (s.getD (2 * i + 1) 0)
def okD (s : List Int) (i : Nat) : Prop := 0 ≤ dig (s.getD (2 * i) 0) ∧ 0 ≤ dig (s.getD (2 * i + 1) 0)
instance (s : List Int) (i : Nat) : Decidable (okD s i) := inferInstanceAs (Decidable (_ ∧ _))
def okR (s : List Int) : Prop := s.length = 64 ∧ ∀ i, i < 32 → okD s i
instance (s : List Int) : Decidable (okR s) := inferInstanceAs (Decidable (_ ∧ _))
def readI (s : List Int) : List Int := if okR s then (List.range 32).map (readB s) else List.replicate 32 0
def cmpM (x y : List Int) : Int := Lib.compareBytes (u8l x) (u8l y)
theorem Compare_S {b : World} {F : List SP} {x y : List Int} (hx : x.length = 32) (hy : y.length = 32) : SC Tryz.prog n_sha_Compare [idV x, idV y] b F (fun v F' => v = .int .i64 (cmpM x y) ∧ F' = F) := by
  refine enterS F_sha_Compare rfl rfl rfl ?_
  (refine sw_seq (sw_region ?_))
  refine so_box rfl rfl rfl rfl rfl fun g2 => ?_
  refine so_box rfl rfl rfl rfl rfl fun g3 => ?_
  (refine so_1 rfl ?_; refine so_nil (sn_then ?_); refine sw_seq ?_)
  refine sw_draw flo [] (by decide +kernel) (ent_nil _) ?_
  ((iterate 2 refine sd_2 rfl rfl (by omega) ?_))
  refine sd_know 5 (.slice (some ⟨g2, 0, none⟩) 32 32) rfl rfl ?_
  refine sd_know 6 (.slice (some ⟨g3, 0, none⟩) 32 32) rfl rfl ?_
  refine sd_callE rfl rfl rfl rfl (bCompare_S (vl1 (l := x) (k := 1) hx.symm (by decide) rfl) (vl1 (l := y) (k := 0) hy.symm (by decide) rfl)) (ent_nil _) ?_
  (refine sd_1 rfl (.inl rfl) ?_)
  refine sd_nil ?_
  (refine sn_then ?_; refine sw_ret ?_)
  refine sn_ret rfl (.tmp rfl .nil) (ent_keep 2 [] rfl rfl) ?_
  exact ⟨rfl, rfl⟩
end Go.Proofs.YtmeiadgpglpelaaGreat
/- Digests, part fourteen: the document's answers: Cut, digits, which one is less. Conditions: cells are bytes. -/
namespace Go.Proofs.YtmeiadgpglpelaaGreat
open Go.Eng Go.RowKit

end Go.Proofs.YtmeiadgpglpelaaGreat
/- Digests, part fifteen: the document's answers: texts. Conditions: cells are bytes. -/
namespace Go.Proofs.YtmeiadgpglpelaaGreat
open Go.Eng Go.RowKit

end Go.Proofs.YtmeiadgpglpelaaGreat
/- Digests, part sixteen: the document's block. Conditions: the bytes may be read. -/
namespace Go.Proofs.YtmeiadgpglpelaaGreat
open Go.Eng Go.RowKit

end Go.Proofs.YtmeiadgpglpelaaGreat
/- Digests, part seventeen: the document's digest. Conditions: not too many bytes, which may be read. -/
namespace Go.Proofs.YtmeiadgpglpelaaGreat
open Go.Eng Go.RowKit

theorem sd_stW {P : Program} {tt : Nat → Option TI} [TT P tt] {ro : Option Nat} {N : Nat} {fl : Oper → Bool} {l rest : List Oper} {kk : Nat} {Q : Exit → Act → World → Prop} {E : List (Nat × Value)} {ds : List Deferred} {b : World} {F0 F G : List SP}
    {op : Op} {ty : TypeId} {pos : String} {aft : Array Edge} {g : Option (Nat × Bool)} {t g' t0 : Nat} {x y : Operand} {i : TI} {cs vs : List Value} (k : Nat) (hg : wants l E g = some true) (hf : fl ⟨none, op, ty, pos, aft, g⟩ = false) (hop : op = .store t x y) (ht : tt t = some i) (hx : ev E x = some (.pointer (some ⟨g', 0, none⟩))) (hy : ev E y = some (.agg ⟨vs⟩)) (hF : nth F k = some (pt g' t0 cs)) (hG : setF F k (pt g' t0 vs) = some G)
    (hs : vs.length = i.size) (hv : ∀ u ∈ vs, u.oneCell' = true) (hc : vs.length = cs.length) (he : Ent G F0) (h : SD P fl ro N F0 l (kk + 1) rest Q E ds b G) : SD P fl ro N F0 l kk (⟨none, op, ty, pos, aft, g⟩ :: rest) Q E ds b F := by
  subst hop
  refine sd_wr hg hf (fun w H => ?_) he h
  have B := H.blk hF
  exact ⟨_, eu_storeW (vs := vs) ht hx hy rfl (by rw [hs]; exact Nat.beq_refl _) hv B hc, H.write hF (Fr.setRow _ _ _) B.setRow hG⟩
theorem sl_at {g o m c n' c' : Nat} (h : c ≠ m) : Value.slice (if c = m then some ⟨g, o, none⟩ else (some ⟨g, o, none⟩ : Option Addr).map fun x => x.add (m * 1)) n' c' = .slice (some ⟨g, o + m, none⟩) n' c' := by
  rw [if_neg h]
  simp only [Option.map_some, Addr.add, Nat.mul_one]
  split
  · rename_i h0; simp [h0]
  · rfl

end Go.Proofs.YtmeiadgpglpelaaGreat
/- Digests, part eighteen: the chapter's examples; lent bytes, written-over bytes, a number picked. Conditions: not too many bytes. -/
namespace Go.Proofs.YtmeiadgpglpelaaGreat
open Go.Eng Go.RowKit

def abcS : ByteArray := ⟨#[98, 97, 55, 56, 49, 54, 98, 102, 56, 102, 48, 49, 99, 102, 101, 97, 52, 49, 52, 49, 52, 48, 100, 101, 53, 100, 97, 101, 50, 50, 50, 51, 98, 48, 48, 51, 54, 49, 97, 51, 57, 54, 49, 55, 55, 97, 57, 99, 98, 52, 49, 48, 102, 102, 54, 49, 102, 50, 48, 48, 49, 53, 97, 100]⟩
theorem rdA : readI (strI abcS) = sumM [97, 98, 99] := by decide +kernel
theorem tmod_neg' {x n : Int} (hx : x < 0) : x.tmod n = -((-x) % n) := by
  have h1 : (-x).tmod n = (-x) % n := Int.tmod_eq_emod_of_nonneg (by omega)
  rw [← h1, Int.neg_tmod, Int.neg_neg]
theorem tmod_bd {x n : Int} (hn : 0 < n) : -n < x.tmod n ∧ x.tmod n < n := by
  by_cases hx : x < 0
  · have := Int.emod_nonneg (-x) (by omega : n ≠ 0)
    have := Int.emod_lt_of_pos (-x) hn
    rw [tmod_neg' hx]; omega
  · have := Int.emod_nonneg x (by omega : n ≠ 0)
    have := Int.emod_lt_of_pos x hn
    rw [Int.tmod_eq_emod_of_nonneg (by omega)]; omega
theorem emod_of {x n q s : Int} (h : x = n * q + s) (h0 : 0 ≤ s) (h1 : s < n) : x % n = s := by
  rw [h, Int.add_comm, Int.add_mul_emod_self_left, Int.emod_eq_of_lt h0 h1]
theorem pick_lt {x n : Int} (hn : 0 < n) (h : x.tmod n < 0) : x.tmod n + n = x % n := by
  have hx : x < 0 := by
    apply Classical.byContradiction
    intro hx
    have := Int.emod_nonneg x (by omega : n ≠ 0)
    rw [Int.tmod_eq_emod_of_nonneg (by omega)] at h; omega
  rw [tmod_neg' hx] at h ⊢
  have h1 := Int.emod_lt_of_pos (-x) hn
  have h2 := Int.emod_add_mul_ediv (-x) n
  refine (emod_of (q := -((-x) / n) - 1) ?_ (by omega) (by omega)).symm
  rw [Int.mul_sub, Int.mul_neg]; omega
theorem pick_ge {x n : Int} (hn : 0 < n) (h : ¬ x.tmod n < 0) : x.tmod n = x % n := by
  by_cases hx : x < 0
  · rw [tmod_neg' hx] at h ⊢
    have h1 := Int.emod_nonneg (-x) (by omega : n ≠ 0)
    have h2 := Int.emod_add_mul_ediv (-x) n
    have h3 : (-x) % n = 0 := by omega
    refine (emod_of (q := -((-x) / n)) ?_ (by omega) (by omega)).symm
    rw [Int.mul_neg]; omega
  · exact Int.tmod_eq_emod_of_nonneg (by omega)
theorem Pick_S {b : World} {F : List SP} {x n : Int} (hn : I64 n) : SC Tryz.prog n_entrepotkit_Pick [.int .i64 x, .int .i64 n] b F (fun v F' => v = .int .i64 (if n ≤ 0 then 0 else x % n) ∧ F' = F) := by
  unfold I64 at hn
  refine enterS F_entrepotkit_Pick rfl rfl rfl ?_
  (refine sw_seq (sw_region ?_); refine so_1 rfl ?_; refine so_nil (sn_then ?_); (iterate 2 refine sw_seq ?_); refine sw_region ?_; (iterate 2 refine so_1 rfl ?_); refine so_nil (sn_then ?_))
  refine sw_if rfl (fun h => ?_) (fun h => ?_)
  · (refine sw_seq (sw_region ?_); refine so_1 rfl ?_; refine so_nil (sn_then ?_); refine sw_ret ?_; refine sn_then_ret ?_)
    refine sn_ret rfl (.tmp rfl .nil) (Ent.refl _) ?_
    exact ⟨by rw [if_pos h]; rfl, rfl⟩
  (refine sw_skip ?_; refine sn_then ?_; refine sw_seq (sw_region ?_); (iterate 2 refine so_1 rfl ?_); refine so_2 rfl (by omega) ?_; refine so_1 rfl ?_; refine so_nil (sn_then ?_); (iterate 2 refine sw_seq ?_); refine sw_region ?_; (iterate 2 refine so_1 rfl ?_); refine so_nil (sn_then ?_))
  refine sw_if rfl (fun h2 => ?_) (fun h2 => ?_)
  · (refine sw_region ?_; (iterate 2 refine so_1 rfl ?_))
    have hb := tmod_bd (x := x) (n := n) (by omega)
    have e := pick_lt (x := x) (n := n) (by omega) h2
    (refine so_2 rfl (by (unfold I64; omega)) ?_; refine so_1 rfl ?_; refine so_nil (sn_then ?_); refine sw_seq (sw_region ?_); (iterate 2 refine so_1 rfl ?_); refine so_nil (sn_then ?_); refine sw_ret ?_)
    refine sn_ret rfl (.tmp rfl .nil) (Ent.refl _) ?_
    exact ⟨by rw [if_neg h, ← e]; rfl, rfl⟩
  (refine sw_skip ?_; refine sn_then ?_; refine sw_seq (sw_region ?_); (iterate 2 refine so_1 rfl ?_); refine so_nil (sn_then ?_); refine sw_ret ?_)
  refine sn_ret rfl (.tmp rfl .nil) (Ent.refl _) ?_
  exact ⟨by rw [if_neg h, ← pick_ge (by omega) h2]; rfl, rfl⟩

theorem spl_u8 {l : List Int} {i : Nat} {x : Int} (h : i < l.length) : spl (u8s l) i [.int .u8 x] = u8s (l.set i x) := by
  simp only [spl, u8s, List.map_set, List.length_cons, List.length_nil, List.cons_append, List.nil_append, Nat.zero_add]
  rw [List.set_eq_take_append_cons_drop, if_pos (by simpa using h)]
theorem OverBytes_S {b : World} {F : List SP} {v : Value} {l : List Int} (hl : l.length ≤ 1048576) : SC Tryz.prog n_entrepotkit_OverBytes [v] b (rB v l :: F) (fun _ F' => ∃ l', F' = rB v l' :: F) := by
  refine enterS F_entrepotkit_OverBytes rfl rfl rfl ?_
  refine sw_fact (fun w H => (H.oat (k := 0) rfl).form) ?_
  rintro ⟨A, c, rfl, h1, h2, h3⟩
  (refine sw_seq (sw_region ?_); refine so_1 rfl ?_; refine so_nil (sn_then ?_); refine sw_block ?_)
  refine sw_loop (S := Nat × List Int) (fun s => [(0, .slice A l.length c), (2, .int .i64 (s.1 : Int))]) (fun s => row t_uint8 1 (.slice A l.length c) l.length (u8s s.2) :: F) (fun s => s.1 ≤ l.length ∧ s.2.length = l.length) (fun s => l.length - s.1) (0, l) ⟨rfl, rfl, trivial⟩ (Ent.refl _) ⟨Nat.zero_le _, rfl⟩ ?_
  rintro ⟨i, m⟩ ⟨hi, hm⟩
  dsimp only at hi hm ⊢
  ((iterate 2 refine sw_seq ?_); refine sw_region ?_; (iterate 4 refine so_1 rfl ?_); refine so_nil (sn_then ?_))
  refine sw_if rfl (fun h => ?_) (fun h => ?_)
  · obtain ⟨g, o, rfl⟩ := h3 (by omega)
    have hvl : ∀ w, Sat b (row t_uint8 1 (.slice (some ⟨g, o, none⟩) l.length c) l.length (u8s m) :: F) w → VL (Value.int .u8) w (.slice (some ⟨g, o, none⟩) l.length c) m := fun w H => by
      have := (H.oat (k := 0) rfl).sl
      unfold VL; rw [hm]; exact this
    (refine sw_skip ?_; refine sn_then ?_; refine sw_seq ?_; refine sw_block ?_; refine sw_region ?_; (iterate 4 refine so_1 rfl ?_); refine so_2 rfl (by omega) ?_)
    refine so_rd rfl (fun w H => ex_load rfl rfl rfl (by rw [mulz_eq]; simpa using VL.at (hvl w H) i (by omega))) rfl ?_
    (refine so_1 rfl ?_; refine so_2 rfl (by omega) ?_)
    refine so_strow 0 i rfl rfl rfl rfl rfl rfl rfl rfl (spl_u8 (by omega)) rfl (by rw [mulz_eq]; simp) (by simp; omega) (u8s_one [_]) ?_
    (refine so_nil ?_; refine sn_block ?_; refine sn_then ?_; refine sw_region ?_; refine so_1 rfl ?_; refine so_2 rfl (by (unfold I64; omega)) ?_; refine so_1 rfl ?_; refine so_nil ?_)
    refine sn_round (i + 1, _) ⟨rfl, rfl, trivial⟩ (Ent.refl _) ⟨by omega, by simp [hm]⟩ ?_
    show l.length - (i + 1) < l.length - i
    omega
  (refine sw_exit ?_; refine sn_then_exit ?_; refine sn_loop_exit ?_; refine sn_block_exit ?_)
  refine sn_end rfl .nil (Ent.refl _) ?_
  exact ⟨m, by rw [rB, hm]⟩

def lent4 : List Int := [201, 202, 203, 204]
/-- Bytes with room behind them. -/
abbrev rL (A : Option Addr) (c : Nat) (l : List Int) : SP := row t_uint8 1 (.slice A (l.length + 4) c) (l.length + 4) (u8s (l ++ lent4))
theorem rL_vl {b : World} {F : List SP} {A : Option Addr} {c k : Nat} {l : List Int} (hk : nth F k = some (rL A c l)) : ∀ w, Sat b F w → VL (Value.int .u8) w (.slice A l.length c) l := fun w H => by
  have := (Oat.take (H.oat hk) (k := l.length) (by omega)).sl
  rw [show (u8s (l ++ lent4)).take (l.length * 1) = u8s l by simp [u8s]] at this
  exact this
theorem rL_all {b : World} {F : List SP} {A : Option Addr} {c k : Nat} {l : List Int} (hk : nth F k = some (rL A c l)) : ∀ w, Sat b F w → VL (Value.int .u8) w (.slice A (l.length + 4) c) (l ++ lent4) := fun w H => by
  have := (H.oat hk).sl
  unfold VL
  rw [show (l ++ lent4).length = l.length + 4 by simp [lent4]]
  exact this
theorem LentBytes_S {b : World} {F : List SP} {va : Value} {l : List Int} (hl : l.length ≤ 1000000) (ha : ∀ w, Sat b F w → VL (Value.int .u8) w va l) :
    SC Tryz.prog n_entrepotkit_LentBytes [va] b F (fun v F' => ∃ A c, v = .slice A l.length c ∧ F' = rL A c l :: F) := by
  refine enterS F_entrepotkit_LentBytes rfl rfl rfl ?_
  refine sw_fact (fun w H => (ha w H).form) ?_
  rintro ⟨A, c, rfl, h1, h2, h3, h4⟩
  (refine sw_seq (sw_region ?_); refine so_1 rfl ?_; refine so_nil (sn_then ?_); refine sw_seq (sw_region ?_))
  refine so_lit [] rfl rfl rfl rfl rfl rfl rfl rfl rfl fun g0 => ?_
  refine so_ent (ent_blk_row (n := 0) (sz := 1) rfl rfl (by decide) 0 rfl rfl) ?_
  (refine so_1 rfl ?_)
  refine so_append 0 rfl rfl rfl rfl rfl rfl rfl rfl rfl (up ha (ent_keep 1 [] rfl rfl)) (u8s_one _) (by omega) (fun _ => rfl) fun v6 => ?_
  refine so_lit [.int .u8 201, .int .u8 202, .int .u8 203, .int .u8 204] rfl rfl rfl rfl rfl rfl rfl rfl rfl fun g7 => ?_
  refine so_append 1 rfl rfl rfl rfl rfl rfl rfl rfl rfl (vl1 (l := lent4) (k := 0) rfl (by decide) rfl) (u8s_one lent4) (by simp [lent4]; omega) (fun _ => rfl) fun v8 => ?_
  refine so_fact (fun w H => (H.oat (k := 1) rfl).form) ?_
  rintro ⟨A8, c8, rfl, k1, k2, k3⟩
  have e4 : 0 + l.length + lent4.length = l.length + 4 := by simp [lent4]
  rw [e4] at k1 ⊢
  refine so_ent ((ent_set (B := rL A8 c8 l) 1 rfl (fun h hA => by simpa [rL] using hA) rfl).trans (ent_keep 2 [1] rfl rfl)) ?_
  (refine so_1 rfl ?_; refine so_nil (sn_then ?_); refine sw_seq (sw_region ?_); (iterate 3 refine so_1 rfl ?_); refine so_2 rfl (by omega) ?_; refine so_1 rfl ?_; refine so_nil (sn_then ?_); refine sw_ret ?_)
  refine sn_ret rfl (.tmp rfl .nil) (Ent.refl _) ?_
  exact ⟨A8, c8, rfl, rfl⟩
theorem sd_re {P : Program} {ro : Option Nat} {N : Nat} {fl : Oper → Bool} {l rest : List Oper} {kk : Nat} {Q : Exit → Act → World → Prop} {E : List (Nat × Value)} {ds : List Deferred} {b : World} {F0 F : List SP}
    {d : Nat} {op : Op} {ty : TypeId} {pos : String} {aft : Array Edge} {g : Option (Nat × Bool)} {v : Value} (hg : wants l E g = some true) (hf : fl ⟨some d, op, ty, pos, aft, g⟩ = false) (hx : ∀ w, Sat b F w → Ex P E op ty w v w) (hd : Nat.blt d N = true) (he : Ent F F0)
    (h : SD P fl ro N F0 l (kk + 1) rest Q ((d, v) :: E) ds b F) : SD P fl ro N F0 l kk (⟨some d, op, ty, pos, aft, g⟩ :: rest) Q E ds b F := by
  constructor
  intro w H
  exact dw_ex hg hf (hx w H) (H.ent he) hd (h.1 w H)
def floN (n : Nat) (o : Oper) : Bool := flo o && (match o.dst with | some d => !Nat.beq d n | none => true)
theorem KeptBytes_S {b : World} {F : List SP} {A : Option Addr} {c : Nat} {vb : Value} {l : List Int} (hl : l.length ≤ 1000000) (hb : ∀ w, Sat b F w → VL (Value.int .u8) w vb l) :
    SC Tryz.prog n_entrepotkit_KeptBytes [.slice A l.length c, vb] b (rL A c l :: F) (fun v F' => v = .bool true ∧ F' = rL A c l :: F) := by
  refine enterS F_entrepotkit_KeptBytes rfl rfl rfl ?_
  refine sw_fact (fun w H => (hb w (H.ent (ent_keep 1 [] rfl rfl))).form) ?_
  rintro ⟨bA, bc, rfl, h1, h2, h3, h4⟩
  refine sw_fact (fun w H => (H.oat (k := 0) rfl).form) ?_
  rintro ⟨A', c', hv, k1, k2, k3⟩
  cases hv
  obtain ⟨gg, oo, rfl⟩ := k3 (by omega)
  (refine sw_seq (sw_region ?_); refine so_1 rfl ?_; refine so_nil (sn_then ?_); refine sw_seq (sw_region ?_); (iterate 3 refine so_1 rfl ?_); refine so_2 rfl (by omega) ?_; refine so_1 rfl ?_; refine so_nil (sn_then ?_); refine sw_seq ?_)
  refine sw_draw (floN 40) (rL (some ⟨gg, oo, none⟩) c l :: F) (by decide +kernel) (Ent.refl _) ?_
  ((iterate 6 refine sd_1 rfl (.inl rfl) ?_))
  refine sd_know 15 (.bool true) rfl (congrArg Value.bool (decide_eq_true rfl)) ?_
  (refine sd_1 rfl (.inl rfl) ?_)
  refine sd_b2s rfl rfl rfl rfl rfl rfl rfl rfl (rL_vl (k := 0) rfl) ?_
  (refine sd_1 rfl (.inl rfl) ?_)
  refine sd_b2s rfl rfl rfl rfl rfl rfl rfl rfl (up hb (ent_keep 1 [] rfl rfl)) ?_
  ((iterate 3 refine sd_1 rfl (.inl rfl) ?_))
  refine sd_know 22 (.bool true) rfl (congrArg Value.bool (decide_eq_true rfl)) ?_
  ((iterate 4 refine sd_1 rfl (.inl rfl) ?_); refine sd_2 rfl rfl (by (unfold I64; omega)) ?_; (iterate 3 refine sd_1 rfl (.inl rfl) ?_))
  refine sd_know 30 (.bool true) rfl (congrArg Value.bool (decide_eq_true (by omega))) ?_
  ((iterate 5 refine sd_1 rfl (.inl rfl) ?_); refine sd_2 rfl rfl (by (unfold I64; omega)) ?_; refine sd_2 rfl rfl (by omega) ?_)
  have e1 : ((l.length : Int)).toNat = l.length := by omega
  have e2 : ((l.length : Int) + 4).toNat - l.length = 4 := by omega
  refine sd_know 37 (.slice (some ⟨gg, oo + l.length, none⟩) 4 (c - l.length)) rfl (by rw [e1, e2, sl_at (by omega)]) ?_
  refine sd_b2s (xs := lent4) rfl rfl rfl rfl rfl rfl rfl rfl (fun w H => ?_) ?_
  · have := VL.sub (l := l.length) (h := l.length + 4) (A' := some ⟨gg, oo + l.length, none⟩) (c' := c - l.length) (rL_all (k := 0) rfl w H) (by omega) (by simp [lent4]) (by omega) (by omega) (fun _ bk off he => by cases he; rfl) (fun he => by cases he)
    rw [show l.length + 4 - l.length = 4 by omega] at this
    rwa [show ((l ++ lent4).take (l.length + 4)).drop l.length = lent4 by rw [List.take_of_length_le (by simp [lent4])]; simp] at this
  refine sd_lit (lent4.map (Value.int .u8)) rfl rfl rfl rfl rfl rfl rfl rfl rfl rfl (Ent.refl _) fun g2 => ?_
  refine sd_re rfl rfl (fun w H => ex_b2s rfl rfl rfl rfl (vl1 (l := lent4) (k := 0) rfl (by decide) rfl w H)) rfl (ent_keep 1 [] rfl rfl) ?_
  ((iterate 3 refine sd_1 rfl (.inl rfl) ?_))
  refine sd_nil ?_
  (refine sn_then ?_; refine sw_ret ?_)
  refine sn_ret rfl (.tmp rfl .nil) (ent_keep 1 [] rfl rfl) ?_
  exact ⟨by simp [tupl], rfl⟩
end Go.Proofs.YtmeiadgpglpelaaGreat
/- Digests, part twenty-four: what a row's arguments are to the walks. Conditions: none. -/
namespace Go.Proofs.YtmeiadgpglpelaaGreat
open Go.Eng Go.RowKit
theorem byteW_of {xs : List Int} (h : ∀ x ∈ xs, (Lit.int .u8 x).wf = true) : byteW xs := by
  intro x hx
  have := h x hx
  simp [Lit.wf, IntKind.min, IntKind.max, IntKind.signed, IntKind.bits] at this
  omega
end Go.Proofs.YtmeiadgpglpelaaGreat
/- Blobs, part one: how a store lies in memory; whether nobody made it; how it stands. Conditions: none. -/
namespace Go.Proofs.YtmeiadgpglpelaaGreat
open Go.Eng Go.RowKit Go.WideMaps

def idOk (a : List Int) : Prop := a.length = 32 ∧ ∀ x ∈ a, (Lit.int .u8 x).wf = true
/-- A blob that is kept, and where. -/
structure Kp where
  id : List Int
  b : List Int
  g : Nat
  v : Value
section
variable {b : World} {F : List SP} {gs gm : Nat} {w r u : Int} {l : List Kp}
end
end Go.Proofs.YtmeiadgpglpelaaGreat
/- Blobs, part two: Width, Room, Used, New, and what tells a blob. Conditions: not too many bytes. -/
namespace Go.Proofs.YtmeiadgpglpelaaGreat
open Go.Eng Go.RowKit Go.WideMaps

section
variable {b : World} {F : List SP} {gs gm : Nat} {w r u : Int} {l : List Kp}
end
end Go.Proofs.YtmeiadgpglpelaaGreat
/- Blobs, part three: Size and Drop. Conditions: not too many bytes. -/
namespace Go.Proofs.YtmeiadgpglpelaaGreat
open Go.Eng Go.RowKit Go.WideMaps

section
variable {b : World} {F : List SP} {gs gm : Nat} {w r u : Int} {l : List Kp}
end
end Go.Proofs.YtmeiadgpglpelaaGreat
/- Blobs, part four: what Put asks. Conditions: not too many bytes. -/
namespace Go.Proofs.YtmeiadgpglpelaaGreat
open Go.Eng Go.RowKit Go.WideMaps

section
variable {b : World} {F : List SP}
variable {A : SP} {g9 g8 g5 g4 g3 gs gm : Nat} {is : Bool} {old vb : Value} {id xs : List Int} {w r u : Int} {l : List Kp}
end
end Go.Proofs.YtmeiadgpglpelaaGreat
/- Blobs, part five: Put. Conditions: not too many bytes. -/
namespace Go.Proofs.YtmeiadgpglpelaaGreat
open Go.Eng Go.RowKit Go.WideMaps

section
variable {b : World} {F : List SP} {gs gm : Nat} {w r u : Int} {l : List Kp} {vb : Value} {id xs : List Int}
end
end Go.Proofs.YtmeiadgpglpelaaGreat
/- Blobs, part six: Put, where something is kept. Conditions: not too many bytes. -/
namespace Go.Proofs.YtmeiadgpglpelaaGreat
open Go.Eng Go.RowKit Go.WideMaps

section
variable {b : World} {F : List SP} {gs gm : Nat} {w r u : Int} {l : List Kp} {vb : Value} {id xs : List Int}
end
end Go.Proofs.YtmeiadgpglpelaaGreat
/- Blobs, part seven: the heap's methods. Conditions: not too many. -/
namespace Go.Proofs.YtmeiadgpglpelaaGreat
open Go.Eng Go.RowKit Go.WideMaps

def idsC : List (List Int) → List Value
  | [] => []
  | a :: l => u8s a ++ idsC l
def len32 (l : List (List Int)) : Prop := ∀ a ∈ l, a.length = 32
theorem idsC_len {l : List (List Int)} (h : len32 l) : (idsC l).length = l.length * 32 := by
  induction l with
  | nil => rfl
  | cons a l ih => simp only [idsC, List.length_append, u8s_len, h a (by simp), ih (fun x hx => h x (by simp [hx])), List.length_cons]; omega
section
variable {b : World} {F : List SP} {A : Option Addr} {c : Nat} {l : List (List Int)}
theorem idsC_set {l : List (List Int)} (h : len32 l) {i : Nat} {x : List Int} (hx : x.length = 32) (hi : i < l.length) : spl (idsC l) (i * 32) (u8s x) = idsC (l.set i x) := by
  induction l generalizing i with
  | nil => simp at hi
  | cons a l ih =>
    have ha := h a (by simp)
    have hl : len32 l := fun x hx => h x (by simp [hx])
    cases i with
    | zero =>
      simp only [idsC, spl, Nat.zero_mul, List.take_zero, List.nil_append, Nat.zero_add, List.set_cons_zero]
      congr 1
      rw [u8s_len, hx, show 32 = (u8s a).length by rw [u8s_len, ha]]
      exact List.drop_left
    | succ i =>
      have := ih hl (i := i) (by simpa using hi)
      simp only [spl] at this
      simp only [idsC, List.set_cons_succ, ← this, spl]
      rw [show (i + 1) * 32 = (u8s a).length + i * 32 by rw [u8s_len, ha]; omega, List.take_append, List.take_of_length_le (by omega), List.drop_append, List.drop_of_length_le (l := u8s a) (by omega)]
      rw [show (u8s a).length + i * 32 - (u8s a).length = i * 32 by omega, show (u8s a).length + i * 32 + (u8s x).length - (u8s a).length = i * 32 + (u8s x).length by omega]
      simp
theorem len32_set {l : List (List Int)} (h : len32 l) {x : List Int} (hx : x.length = 32) (i : Nat) : len32 (l.set i x) := fun a ha => by
  rcases List.mem_or_eq_of_mem_set ha with h' | rfl
  · exact h a h'
  · exact hx
abbrev rN (A : Option Addr) (c n : Nat) (l : List (List Int)) : SP := row t_api_ID 32 (.slice A n c) n (idsC l)
end
end Go.Proofs.YtmeiadgpglpelaaGreat
/- Blobs, part eight: the heap's Push and Pop. Conditions: not too many. -/
namespace Go.Proofs.YtmeiadgpglpelaaGreat
open Go.Eng Go.RowKit Go.WideMaps

section
variable {b : World} {F : List SP} {A : Option Addr} {c n gh : Nat} {l : List (List Int)} {x : List Int}
end
end Go.Proofs.YtmeiadgpglpelaaGreat
/- Blobs, part nine: the heap: up. Conditions: not too many. -/
namespace Go.Proofs.YtmeiadgpglpelaaGreat
open Go.Eng Go.RowKit Go.WideMaps

end Go.Proofs.YtmeiadgpglpelaaGreat
/- Blobs, part ten: the heap: up. Conditions: not too many. -/
namespace Go.Proofs.YtmeiadgpglpelaaGreat
open Go.Eng Go.RowKit Go.WideMaps

section
variable {b : World} {F : List SP} {A : Option Addr} {c n gh : Nat} {l : List (List Int)}
end
end Go.Proofs.YtmeiadgpglpelaaGreat
