/- Digests, part one: words of 32 bits; how a block's 64 words are spread. Conditions: the bytes may be read. -/
import Derived.Test.YtgebobjihojljaaTT
namespace Go.Proofs.Ytgebobjihojljaa
open Go.Eng Go.RowKit

/-! ## Words -/
def or32 (a b : Int) : Int := bitv .or .u32 a b
def xor32 (a b : Int) : Int := bitv .xor .u32 a b
def and32 (a b : Int) : Int := bitv .and .u32 a b
def add32 (a b : Int) : Int := IntKind.u32.wrap (a + b)
def shl32 (a : Int) (n : Nat) : Int := IntKind.u32.wrap (a * 2 ^ n)
def shr32 (a : Int) (n : Nat) : Int := a.fdiv (2 ^ n)
def rotr (a : Int) (n : Nat) : Int := or32 (shl32 a (32 - n)) (shr32 a n)
theorem or32_comm (a b : Int) : or32 a b = or32 b a := by simp [or32, bitv, BitVec.or_comm]

theorem rot_amount : ∀ n : Fin 32, 1 ≤ n.val → bitv .and .u64 (IntKind.u64.wrap (IntKind.i64.wrap (0 - (n.val : Int)))) 31 = ((32 - n.val : Nat) : Int) := by decide +kernel
theorem rot_back : ∀ n : Fin 32, 1 ≤ n.val → IntKind.u64.wrap (32 - ((32 - n.val : Nat) : Int)) = (n.val : Int) := by decide +kernel

theorem RotateLeft32_spec (x : Int) (n : Nat) (h1 : 1 ≤ n) (h2 : n < 32) (w : World) :
    Calls Try.prog n_math_bits_RotateLeft32 #[.int .u32 x, .int .i64 (IntKind.i64.wrap (0 - (n : Int)))] w fun e w' => e = .returned (.int .u32 (rotr x n)) ∧ w = w' := by
  have ha := rot_amount ⟨n, h2⟩ h1
  have hb := rot_back ⟨n, h2⟩ h1
  dsimp only at ha hb
  refine enter2 F_math_bits_RotateLeft32 rfl rfl ?_
  repeat (first | refine o_p rfl rfl rfl ?_ | refine on ?_ | refine sr ?_ | refine ss ?_)
  rw [ha]
  repeat refine o_p rfl rfl rfl ?_
  refine o_c rfl rfl rfl (by omega) ?_
  repeat refine o_p rfl rfl rfl ?_
  rw [hb]
  refine o_c rfl rfl rfl (by omega) ?_
  repeat (first | refine o_p rfl rfl rfl ?_ | refine on ?_ | refine sr ?_ | refine ss ?_)
  refine cw_ret (pn_ret rfl rfl ⟨?_, rfl⟩)
  have e1 : min ((32 - n : Nat) : Int).toNat 32 = 32 - n := by omega
  have e2 : min (n : Int).toNat 32 = n := by omega
  simp only [rotr, or32, shl32, shr32, IntKind.bits, e1, e2]

theorem turned_spec (x : Int) (n : Nat) (h1 : 1 ≤ n) (h2 : n < 32) (w : World) :
    Calls Try.prog n_sha_turned #[.int .u32 x, .int .i64 (n : Int)] w fun e w' => e = .returned (.int .u32 (rotr x n)) ∧ w = w' := by
  refine enter2 F_sha_turned rfl rfl ?_
  repeat (first | refine o_p rfl rfl rfl ?_ | refine on ?_ | refine sr ?_ | refine ss ?_)
  refine ow_call rfl (ec_call rfl) rfl ((RotateLeft32_spec x n h1 h2 w).mono ?_)
  rintro _ _ ⟨rfl, rfl⟩; refine ⟨_, rfl, ?_⟩
  repeat (first | refine o_p rfl rfl rfl ?_ | refine on ?_ | refine sr ?_ | refine ss ?_)
  exact cw_ret (pn_ret rfl rfl ⟨rfl, rfl⟩)

theorem turn_spec (x : Int) (n : Nat) (h1 : 1 ≤ n) (h2 : n < 32) (w : World) :
    Calls Try.prog n_entrepotref02_turn #[.int .u32 x, .int .i64 (n : Int)] w fun e w' => e = .returned (.int .u32 (rotr x n)) ∧ Ext w w' := by
  refine enter2 F_entrepotref02_turn rfl rfl ?_
  refine (cw_seq (cw_region ?_))
  repeat refine o_p rfl rfl rfl ?_
  refine (ow_nil (pn_then (cw_seq (cw_draw flo (fun W' => Ext w W') (by decide) (Fr.drew _) ?_))))
  repeat (first | refine d_p rfl rfl rfl rfl ?_ | refine d_c rfl rfl rfl rfl (by first | (unfold I64; omega) | (show (0 : Int) ≤ _; omega) | (show _ ≠ _; omega)) ?_)
  refine (dw_nil (pn_then (cw_ret (pn_ret rfl rfl ⟨?_, Fr.drew _⟩))))
  have e1 : min (32 - (n : Int)).toNat 32 = 32 - n := by omega
  have e2 : min (n : Int).toNat 32 = n := by omega
  rw [rotr, or32_comm]
  simp only [or32, shl32, shr32, IntKind.bits, e1, e2]

/-! ## A block's words -/
def byteL (b : List Int) (i : Nat) : Int := b.getD i 0
def packW (b : List Int) (i : Nat) : Int :=
  or32 (or32 (or32 (shl32 (IntKind.u32.wrap (byteL b (4 * i))) 24) (shl32 (IntKind.u32.wrap (byteL b (4 * i + 1))) 16)) (shl32 (IntKind.u32.wrap (byteL b (4 * i + 2))) 8)) (IntKind.u32.wrap (byteL b (4 * i + 3)))
def sig0 (x : Int) : Int := xor32 (xor32 (rotr x 7) (rotr x 18)) (shr32 x 3)
def sig1 (x : Int) : Int := xor32 (xor32 (rotr x 17) (rotr x 19)) (shr32 x 10)
def wNext (b W : List Int) (i : Nat) : Int :=
  if i < 16 then packW b i else add32 (add32 (add32 (W.getD (i - 16) 0) (sig0 (W.getD (i - 15) 0))) (W.getD (i - 7) 0)) (sig1 (W.getD (i - 2) 0))
def schedL (b : List Int) : Nat → List Int
  | 0 => []
  | i + 1 => schedL b i ++ [wNext b (schedL b i) i]
theorem sched_len (b : List Int) (i : Nat) : (schedL b i).length = i := by
  induction i with
  | zero => rfl
  | succ i ih => simp [schedL, ih]
def u32s (l : List Int) : List Value := l.map (Value.int .u32)
def wCells (b : List Int) (i : Nat) : List Value := u32s (schedL b i) ++ List.replicate (64 - i) (.int .u32 0)
theorem wCells_len (b : List Int) (i : Nat) (h : i ≤ 64) : (wCells b i).length = 64 := by simp [wCells, u32s, sched_len]; omega
theorem wCells_get (b : List Int) (i j : Nat) (h : j < i) : (wCells b i)[j]? = some (.int .u32 ((schedL b i).getD j 0)) := by
  have hl := sched_len b i
  rw [wCells, List.getElem?_append_left (by simp [u32s, hl]; omega)]
  simp only [u32s, List.getElem?_map, List.getD_eq_getElem?_getD]
  rw [List.getElem?_eq_getElem (by omega)]
  rfl
theorem wCells_set (b : List Int) (i : Nat) (h : i < 64) : (wCells b i).set i (.int .u32 (wNext b (schedL b i) i)) = wCells b (i + 1) := by
  have hl := sched_len b i
  unfold wCells
  rw [List.set_append_right _ _ (by simp [u32s, hl])]
  have e : 64 - i = (64 - (i + 1)) + 1 := by omega
  rw [e, List.replicate_succ]
  simp [u32s, schedL, hl]

theorem spread_spec {vb : Value} {b : List Int} {w : World} (hb : VL (Value.int .u8) w vb b) (hl : 64 ≤ b.length) :
    Calls Try.prog n_sha_spread #[vb] w fun e w' => e = .returned (.agg (u32s (schedL b 64)).toArray) ∧ Ext w w' := by
  obtain ⟨A, c, rfl, hnc, hcm, hz, hcell⟩ := hb.op
  refine enter1 F_sha_spread rfl rfl ?_
  refine (cw_seq (cw_region ?_))
  refine ow_new rfl rfl rfl rfl ?_
  intro w1 B1 e1 z1
  change Blk w1 w.heap.size t_64_uint32 (wCells b 0) at B1
  repeat (first | refine o_p rfl rfl rfl ?_ | refine on ?_ | refine sr ?_ | refine ss ?_)
  refine cw_block (cw_loop (G := Nat) (fun i => [(0, .slice A b.length c), (2, .pointer (some ⟨w.heap.size, 0, none⟩)), (6, .int .i64 (i : Int))]) (fun i W => Ext w W ∧ Blk W w.heap.size t_64_uint32 (wCells b i) ∧ i ≤ 64) (fun i => 64 - i) ?_ ?_)
  · exact ⟨0, ⟨rfl, rfl, rfl, trivial⟩, e1, B1, by omega⟩
  rintro i W ⟨hE, B, hi⟩
  try dsimp only
  repeat (first | refine o_p rfl rfl rfl ?_ | refine on ?_ | refine sr ?_ | refine ss ?_)
  refine (cw_seq (cw_if rfl (fun h => ?_) (fun h => ?_)))
  · obtain ⟨bk, off, rfl, hbk, hc⟩ := hcell 0 (by omega)
    have hE' : Ext w W.drew := hE.trans (Fr.drew _)
    have hlen := wCells_len b i (by omega)
    refine (cw_skip (pn_then (cw_seq (cw_block (cw_seq (cw_region ?_))))))
    repeat (first | refine o_p rfl rfl rfl ?_ | refine on ?_ | refine sr ?_ | refine ss ?_)
    have h0 : ∀ j : Nat, 0 + j = j := fun j => Nat.zero_add j
    have hex : ∃ u, (wCells b i)[i]? = some u := ⟨_, List.getElem?_eq_getElem (by omega)⟩
    obtain ⟨u, hu⟩ := hex
    have hst : ∀ W', Blk W' w.heap.size t_64_uint32 (wCells b i) → W'.cell? ⟨w.heap.size, 0 + i, none⟩ = some u ∧ W'.frozen? ⟨w.heap.size, 0 + i, none⟩ = false := by
      intro W' h; rw [h0]; exact ⟨(h.cell i).trans hu, h.frozen i⟩
    refine cw_if rfl (fun h2 => ?_) (fun h2 => ?_)
    · have Bd := B.ext (Fr.drew W)
      have hbyte : ∀ j, j < 4 → W.drew.cell? ⟨bk, off + (4 * i + j), none⟩ = some (.int .u8 (byteL b (4 * i + j))) := by
        intro j hj
        have := hE'.cell (hc (4 * i + j) (by omega))
        rw [this, byteL, List.getD_eq_getElem?_getD, List.getElem?_eq_getElem (by omega)]
        rfl
      refine (cw_seq (cw_draw flo (fun W' => ∀ j, j < 4 → W'.cell? ⟨bk, off + (4 * i + j), none⟩ = some (.int .u8 (byteL b (4 * i + j)))) (by decide +kernel) hbyte ?_))
      repeat (first | refine d_p rfl rfl rfl rfl ?_ | refine d_c rfl rfl rfl rfl (by first | (unfold I64; omega) | (show (0 : Int) ≤ _; omega) | (show _ ≠ _; omega)) ?_)
      refine d_ix (4 * i + 0) rfl rfl rfl rfl (by omega) (by omega) ?_
      refine dw_rd rfl rfl (fun W' hW' => ex_load rfl rfl rfl (hW' 0 (by omega))) rfl ?_
      repeat (first | refine d_p rfl rfl rfl rfl ?_ | refine d_c rfl rfl rfl rfl (by first | (unfold I64; omega) | (show (0 : Int) ≤ _; omega) | (show _ ≠ _; omega)) ?_)
      refine d_ix (4 * i + 1) rfl rfl rfl rfl (by omega) (by omega) ?_
      refine dw_rd rfl rfl (fun W' hW' => ex_load rfl rfl rfl (hW' 1 (by omega))) rfl ?_
      repeat (first | refine d_p rfl rfl rfl rfl ?_ | refine d_c rfl rfl rfl rfl (by first | (unfold I64; omega) | (show (0 : Int) ≤ _; omega) | (show _ ≠ _; omega)) ?_)
      refine d_ix (4 * i + 2) rfl rfl rfl rfl (by omega) (by omega) ?_
      refine dw_rd rfl rfl (fun W' hW' => ex_load rfl rfl rfl (hW' 2 (by omega))) rfl ?_
      repeat (first | refine d_p rfl rfl rfl rfl ?_ | refine d_c rfl rfl rfl rfl (by first | (unfold I64; omega) | (show (0 : Int) ≤ _; omega) | (show _ ≠ _; omega)) ?_)
      refine d_ix (4 * i + 3) rfl rfl rfl rfl (by omega) (by omega) ?_
      refine dw_rd rfl rfl (fun W' hW' => ex_load rfl rfl rfl (hW' 3 (by omega))) rfl ?_
      repeat (first | refine d_p rfl rfl rfl rfl ?_ | refine d_c rfl rfl rfl rfl (by first | (unfold I64; omega) | (show (0 : Int) ≤ _; omega) | (show _ ≠ _; omega)) ?_)
      refine d_ix (i) rfl rfl rfl rfl (by omega) (by omega) ?_
      refine dw_eu rfl rfl (eu_store rfl rfl rfl rfl rfl (hst _ Bd).1 (hst _ Bd).2) ?_ ?_
      · intro j hj
        have hne := hE.size
        have hbl := hbk
        exact (Fr.cell' (Fr.setCell _ _ _) (hbyte j hj) (by simp; omega))
      refine (dw_nil (pn_then (cw_exit (pn_then_exit (pn_block_exit (pn_then (cw_region ?_)))))))
      refine o_c rfl rfl rfl (by unfold I64; omega) ?_
      repeat refine o_p rfl rfl rfl ?_
      have hn : wNext b (schedL b i) i = packW b i := if_pos (by omega)
      have Bs := Bd.set i (.int .u32 (wNext b (schedL b i) i))
      rw [wCells_set b i (by omega), hn] at Bs
      have hzz : 0 + mulz i 1 = i := by rw [mulz_eq]; omega
      refine (ow_nil (pn_round (i + 1) ?_ ?_ ?_))
      · exact ⟨rfl, rfl, rfl, trivial⟩
      · refine ⟨hE'.trans' (Fr.setCell _ _ _) (fun j hj h => by simp at h; omega), ?_, by omega⟩
        rw [hzz]
        exact Bs
      · show 64 - (i + 1) < 64 - i; omega
    · have h2' : 16 ≤ i := by omega
      have Bd := B.ext (Fr.drew W)
      have hS : ∀ j, j < i → W.drew.cell? ⟨w.heap.size, 0 + j, none⟩ = some (.int .u32 ((schedL b i).getD j 0)) := fun j hj => by
        rw [h0]; exact (Bd.cell j).trans (wCells_get b i j hj)
      have hS2 : ∀ j, j < i → W.drew.drew.cell? ⟨w.heap.size, 0 + j, none⟩ = some (.int .u32 ((schedL b i).getD j 0)) := fun j hj => Ext.cell (Fr.drew _) (hS j hj)
      have hS3 : ∀ j, j < i → W.drew.drew.drew.cell? ⟨w.heap.size, 0 + j, none⟩ = some (.int .u32 ((schedL b i).getD j 0)) := fun j hj => Ext.cell (Fr.drew _) (hS2 j hj)
      refine (cw_skip (pn_then (cw_seq (cw_draw flo (fun W' => ∀ j, j < i → W'.cell? ⟨w.heap.size, 0 + j, none⟩ = some (.int .u32 ((schedL b i).getD j 0))) (by decide +kernel) hS ?_))))
      repeat (first | refine d_p rfl rfl rfl rfl ?_ | refine d_c rfl rfl rfl rfl (by first | (unfold I64; omega) | (show (0 : Int) ≤ _; omega) | (show _ ≠ _; omega)) ?_)
      refine d_ix (i - 15) rfl rfl rfl rfl (by omega) (by omega) ?_
      refine dw_rd rfl rfl (fun W' hW' => ex_load rfl rfl rfl (hW' (i - 15) (by omega))) rfl ?_
      refine dw_call rfl rfl (ec_call rfl) rfl ((turned_spec _ 7 (by decide) (by decide) _).mono ?_)
      rintro _ _ ⟨rfl, rfl⟩; refine ⟨_, rfl, hS, ?_⟩
      repeat (first | refine d_p rfl rfl rfl rfl ?_ | refine d_c rfl rfl rfl rfl (by first | (unfold I64; omega) | (show (0 : Int) ≤ _; omega) | (show _ ≠ _; omega)) ?_)
      refine d_ix (i - 15) rfl rfl rfl rfl (by omega) (by omega) ?_
      refine dw_rd rfl rfl (fun W' hW' => ex_load rfl rfl rfl (hW' (i - 15) (by omega))) rfl ?_
      refine dw_call rfl rfl (ec_call rfl) rfl ((turned_spec _ 18 (by decide) (by decide) _).mono ?_)
      rintro _ _ ⟨rfl, rfl⟩; refine ⟨_, rfl, hS, ?_⟩
      repeat (first | refine d_p rfl rfl rfl rfl ?_ | refine d_c rfl rfl rfl rfl (by first | (unfold I64; omega) | (show (0 : Int) ≤ _; omega) | (show _ ≠ _; omega)) ?_)
      refine d_ix (i - 15) rfl rfl rfl rfl (by omega) (by omega) ?_
      refine dw_rd rfl rfl (fun W' hW' => ex_load rfl rfl rfl (hW' (i - 15) (by omega))) rfl ?_
      repeat (first | refine d_p rfl rfl rfl rfl ?_ | refine d_c rfl rfl rfl rfl (by first | (unfold I64; omega) | (show (0 : Int) ≤ _; omega) | (show _ ≠ _; omega)) ?_)
      refine (dw_nil (pn_then (cw_seq (cw_draw flo (fun W' => ∀ j, j < i → W'.cell? ⟨w.heap.size, 0 + j, none⟩ = some (.int .u32 ((schedL b i).getD j 0))) (by decide +kernel) hS2 ?_))))
      repeat (first | refine d_p rfl rfl rfl rfl ?_ | refine d_c rfl rfl rfl rfl (by first | (unfold I64; omega) | (show (0 : Int) ≤ _; omega) | (show _ ≠ _; omega)) ?_)
      refine d_ix (i - 2) rfl rfl rfl rfl (by omega) (by omega) ?_
      refine dw_rd rfl rfl (fun W' hW' => ex_load rfl rfl rfl (hW' (i - 2) (by omega))) rfl ?_
      refine dw_call rfl rfl (ec_call rfl) rfl ((turned_spec _ 17 (by decide) (by decide) _).mono ?_)
      rintro _ _ ⟨rfl, rfl⟩; refine ⟨_, rfl, hS2, ?_⟩
      repeat (first | refine d_p rfl rfl rfl rfl ?_ | refine d_c rfl rfl rfl rfl (by first | (unfold I64; omega) | (show (0 : Int) ≤ _; omega) | (show _ ≠ _; omega)) ?_)
      refine d_ix (i - 2) rfl rfl rfl rfl (by omega) (by omega) ?_
      refine dw_rd rfl rfl (fun W' hW' => ex_load rfl rfl rfl (hW' (i - 2) (by omega))) rfl ?_
      refine dw_call rfl rfl (ec_call rfl) rfl ((turned_spec _ 19 (by decide) (by decide) _).mono ?_)
      rintro _ _ ⟨rfl, rfl⟩; refine ⟨_, rfl, hS2, ?_⟩
      repeat (first | refine d_p rfl rfl rfl rfl ?_ | refine d_c rfl rfl rfl rfl (by first | (unfold I64; omega) | (show (0 : Int) ≤ _; omega) | (show _ ≠ _; omega)) ?_)
      refine d_ix (i - 2) rfl rfl rfl rfl (by omega) (by omega) ?_
      refine dw_rd rfl rfl (fun W' hW' => ex_load rfl rfl rfl (hW' (i - 2) (by omega))) rfl ?_
      repeat (first | refine d_p rfl rfl rfl rfl ?_ | refine d_c rfl rfl rfl rfl (by first | (unfold I64; omega) | (show (0 : Int) ≤ _; omega) | (show _ ≠ _; omega)) ?_)
      refine (dw_nil (pn_then (cw_draw flo (fun W' => ∀ j, j < i → W'.cell? ⟨w.heap.size, 0 + j, none⟩ = some (.int .u32 ((schedL b i).getD j 0))) (by decide +kernel) hS3 ?_)))
      repeat (first | refine d_p rfl rfl rfl rfl ?_ | refine d_c rfl rfl rfl rfl (by first | (unfold I64; omega) | (show (0 : Int) ≤ _; omega) | (show _ ≠ _; omega)) ?_)
      refine d_ix (i - 16) rfl rfl rfl rfl (by omega) (by omega) ?_
      refine dw_rd rfl rfl (fun W' hW' => ex_load rfl rfl rfl (hW' (i - 16) (by omega))) rfl ?_
      repeat (first | refine d_p rfl rfl rfl rfl ?_ | refine d_c rfl rfl rfl rfl (by first | (unfold I64; omega) | (show (0 : Int) ≤ _; omega) | (show _ ≠ _; omega)) ?_)
      refine d_ix (i - 7) rfl rfl rfl rfl (by omega) (by omega) ?_
      refine dw_rd rfl rfl (fun W' hW' => ex_load rfl rfl rfl (hW' (i - 7) (by omega))) rfl ?_
      repeat (first | refine d_p rfl rfl rfl rfl ?_ | refine d_c rfl rfl rfl rfl (by first | (unfold I64; omega) | (show (0 : Int) ≤ _; omega) | (show _ ≠ _; omega)) ?_)
      refine d_ix (i) rfl rfl rfl rfl (by omega) (by omega) ?_
      have B3 := (Bd.ext (Fr.drew _)).ext (Fr.drew W.drew.drew)
      have hE3 : Ext w W.drew.drew.drew := (hE'.trans (Fr.drew _)).trans (Fr.drew _)
      refine dw_eu rfl rfl (eu_store rfl rfl rfl rfl rfl (hst _ B3).1 (hst _ B3).2) ?_ ?_
      · intro j hj
        have hne : (⟨w.heap.size, 0 + j, none⟩ : Addr) ≠ ⟨w.heap.size, 0 + mulz i 1, none⟩ := by rw [mulz_eq]; simp <;> omega
        rw [World.cell?_setCell_other _ _ _ _ hne.symm]
        exact hS3 j hj
      have hn : wNext b (schedL b i) i = add32 (add32 (add32 ((schedL b i).getD (i - 16) 0) (sig0 ((schedL b i).getD (i - 15) 0))) ((schedL b i).getD (i - 7) 0)) (sig1 ((schedL b i).getD (i - 2) 0)) := if_neg (by omega)
      have Bs := B3.set i (.int .u32 (wNext b (schedL b i) i))
      rw [wCells_set b i (by omega), hn] at Bs
      have hzz : 0 + mulz i 1 = i := by rw [mulz_eq]; omega
      refine (dw_nil (pn_block (pn_then (cw_region ?_))))
      refine o_c rfl rfl rfl (by unfold I64; omega) ?_
      repeat refine o_p rfl rfl rfl ?_
      refine (ow_nil (pn_round (i + 1) ?_ ?_ ?_))
      · exact ⟨rfl, rfl, rfl, trivial⟩
      · refine ⟨hE3.trans' (Fr.setCell _ _ _) (fun j hj h => by simp at h; omega), ?_, by omega⟩
        rw [hzz]
        exact Bs
      · show 64 - (i + 1) < 64 - i; omega
  · refine (cw_exit (pn_then_exit (pn_loop_exit (pn_block_exit (pn_then (cw_seq (cw_region ?_)))))))
    obtain rfl : i = 64 := by omega
    have hlen := wCells_len b 64 (by omega)
    have hW : wCells b 64 = u32s (schedL b 64) := by simp [wCells]
    rw [hW] at B hlen
    generalize schedL b 64 = X at *
    refine ow_ex rfl (ex_loadN (cs := u32s X) rfl rfl rfl hlen (fun j _ => by rw [Nat.zero_add]; exact B.cell j)) rfl ?_
    refine ow_eu rfl (eu_storeB (vs := u32s X) rfl rfl rfl rfl (by rw [hlen]; rfl) (by intro u hu; obtain ⟨x, _, rfl⟩ := List.mem_map.1 hu; rfl) B (Nat.ble_eq_true_of_le (by omega))) ?_
    have Bf := B.setRow (ds := spl (u32s X) 0 (u32s X))
    have hspl : spl (u32s X) 0 (u32s X) = u32s X := by simp [spl]
    rw [hspl] at Bf
    rw [hspl]
    refine (ow_nil (pn_then (cw_ret (pn_retC rfl rfl rfl rfl (by rw [hlen]; rfl) Bf ⟨rfl, ?_⟩))))
    exact hE.trans' (Fr.setRow _ _ _) (fun j hj h => by omega)
end Go.Proofs.Ytgebobjihojljaa
