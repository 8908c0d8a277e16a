/- Digests, part three: the walk of the block. Conditions: the bytes may be read; the words lie at the head of a block. -/
import Derived.Test.YtgebobjihojljaaShaB
namespace Go.Proofs.Ytgebobjihojljaa
open Go.Eng Go.RowKit

theorem dw_sub {P : Program} {fl : Oper → Bool} {ro : Option Nat} {N : Nat} {S : World → Prop} {l : List Oper} {k : Nat} {rest : List Oper} {Q : Exit → Act → World → Prop} {E E' : List (Nat × Value)} {ds : List Deferred} {w : World} (hs : Sub E' E)
    (h : DW P fl ro N S l k rest Q E' ds w) : DW P fl ro N S l k rest Q E ds w := fun a hk hd hS hl => h a (hk.sub hs) hd hS hl
def headOf : Option Code → Code
  | some (.seq r _) => r
  | _ => .skip
/-- The first region (its order is drawn, and calls and new memory stand unordered in it). -/
theorem block_head {vb : Value} {A b : List Int} {rest : List Value} {ga ta : Nat} {w : World} {Q' : Exit → Act → World → Prop} (hb : VL (Value.int .u8) w vb b) (hl : 64 ≤ b.length) (hA : A.length = 8) (BA : Blk w ga ta (u32s A ++ rest))
    (H : ∀ w8 gc gk gx, Ext w w8 → w.heap.size ≤ gc → w.heap.size ≤ gk → w.heap.size ≤ gx → gc ≠ gk → gc ≠ gx → gk ≠ gx → Blk w8 gc t_sha_words (u32s A) → Blk w8 gk t_64_uint32 (u32s keyL) → Blk w8 gx t_64_uint32 (u32s (schedL b 64)) →
      PN Try.f36.ntmps Q' .normal [(0, .pointer (some ⟨ga, 0, none⟩)), (4, .pointer (some ⟨gc, 0, none⟩)), (5, .pointer (some ⟨gk, 0, none⟩)), (6, .pointer (some ⟨gx, 0, none⟩))] [] w8) :
    CW Try.prog none Try.f36.ntmps (headOf Try.f36.body) Q' [(0, .pointer (some ⟨ga, 0, none⟩)), (1, vb)] [] w := by
  have hA8 : (u32s A).length = 8 := by rw [u32s_len, hA]
  let own : Nat → Value → Option Nat := fun i v => if 6 ≤ i then (match v with | .pointer (some a) => some a.block | _ => none) else none
  let φ : Nat → (Nat → Value) → World → Prop := fun i vs w => match i with
    | 0 => vs 0 = .pointer (some ⟨ga, 0, none⟩)
    | 1 => vs 1 = .pointer (some ⟨ga, 0, none⟩)
    | 2 => vs 2 = .agg (u32s A).toArray
    | 3 => vs 3 = .agg (u32s keyL).toArray
    | 4 => vs 4 = vb
    | 5 => vs 5 = .agg (u32s (schedL b 64)).toArray
    | 6 => ∃ g, vs 6 = .pointer (some ⟨g, 0, none⟩) ∧ Blk w g t_sha_words (u32s (List.replicate 8 0))
    | 7 => ∃ g, vs 7 = .pointer (some ⟨g, 0, none⟩) ∧ Blk w g t_64_uint32 (u32s (List.replicate 64 0))
    | 8 => ∃ g, vs 8 = .pointer (some ⟨g, 0, none⟩) ∧ Blk w g t_64_uint32 (u32s (List.replicate 64 0))
    | _ => True
  refine cw_ext (fl := flo) 9 (fun _ => True) [(0, .pointer (some ⟨ga, 0, none⟩)), (1, vb)] ⟨rfl, rfl, trivial⟩ rfl (by kernel_rfl) φ own ?_ ?_ ?_ ?_
  · intro j vs w1 w2 h hE
    match j, h with
    | 0, h | 1, h | 2, h | 3, h | 4, h | 5, h => exact h
    | 6, ⟨g, h1, h2⟩ => exact ⟨g, h1, h2.ext hE⟩
    | 7, ⟨g, h1, h2⟩ => exact ⟨g, h1, h2.ext hE⟩
    | 8, ⟨g, h1, h2⟩ => exact ⟨g, h1, h2.ext hE⟩
    | _ + 9, _ => trivial
  · intro j vs vs' w1 h hv
    have := hv j (.inl rfl)
    match j, h with
    | 0, h | 1, h | 2, h | 3, h | 4, h | 5, h => exact this.symm.trans h
    | 6, ⟨g, h1, h2⟩ => exact ⟨g, this.symm.trans h1, h2⟩
    | 7, ⟨g, h1, h2⟩ => exact ⟨g, this.symm.trans h1, h2⟩
    | 8, ⟨g, h1, h2⟩ => exact ⟨g, this.symm.trans h1, h2⟩
    | _ + 9, _ => trivial
  · intro i o hi ho vs a w' hE hk hφ
    match i, hi, ho, hk, hφ with
    | 0, _, ho, hk, hφ =>
      obtain rfl := Option.some.inj ho
      exact eff_ex hk (pev_sound (tt := lookT tts) (by kernel_rfl) w') ⟨Fr.refl _ _, rfl, fun g h => by simp [own] at h⟩
    | 1, _, ho, hk, hφ =>
      obtain rfl := Option.some.inj ho
      have h0 : vs 0 = .pointer (some ⟨ga, 0, none⟩) := hφ 0 (by decide +kernel)
      have hk := hk.sub (E' := [(11, .pointer (some ⟨ga, 0, none⟩))]) ⟨by rw [← h0]; kernel_rfl, trivial⟩
      exact eff_ex hk (pev_sound (tt := lookT tts) (by kernel_rfl) w') ⟨Fr.refl _ _, rfl, fun g h => by simp [own] at h⟩
    | 2, _, ho, hk, hφ =>
      obtain rfl := Option.some.inj ho
      have h0 : vs 1 = .pointer (some ⟨ga, 0, none⟩) := hφ 1 (by decide +kernel)
      have hk := hk.sub (E' := [(12, .pointer (some ⟨ga, 0, none⟩))]) ⟨by rw [← h0]; kernel_rfl, trivial⟩
      exact eff_ex hk (ex_loadN (tt := lookT tts) (cs := u32s A) rfl rfl rfl hA8 (fun j hj => by rw [Nat.zero_add, (BA.ext hE).cell j, List.getElem?_append_left hj])) ⟨Fr.refl _ _, rfl, fun g h => by simp [own] at h⟩
    | 3, _, ho, hk, hφ =>
      obtain rfl := Option.some.inj ho
      have hk := hk.sub (E' := []) trivial
      refine eff_call hk (ec_call rfl) ((keys_spec w').mono ?_)
      rintro e w'' ⟨rfl, he⟩
      exact ⟨_, rfl, he, rfl, fun g h => by simp [own] at h⟩
    | 4, _, ho, hk, hφ =>
      obtain rfl := Option.some.inj ho
      have hk := hk.sub (E' := [(1, vb)]) ⟨by kernel_rfl, trivial⟩
      exact eff_ex hk (pev_sound (tt := lookT tts) (by kernel_rfl) w') ⟨Fr.refl _ _, rfl, fun g h => by simp [own] at h⟩
    | 5, _, ho, hk, hφ =>
      obtain rfl := Option.some.inj ho
      have h0 : vs 4 = vb := hφ 4 (by decide +kernel)
      have hk := hk.sub (E' := [(15, vb)]) ⟨by rw [← h0]; kernel_rfl, trivial⟩
      refine eff_call hk (ec_call rfl) ((spread_spec (hb.ext hE) hl).mono ?_)
      rintro e w'' ⟨rfl, he⟩
      exact ⟨_, rfl, he, rfl, fun g h => by simp [own] at h⟩
    | 6, _, ho, hk, hφ =>
      obtain rfl := Option.some.inj ho
      exact eff_ex hk (ex_alloc (tt := lookT tts) rfl) ⟨Fr.alloc _ _, ⟨_, rfl, Blk.new w' t_sha_words (u32s (List.replicate 8 0))⟩, fun g h => by simp [own] at h; subst h; simp⟩
    | 7, _, ho, hk, hφ =>
      obtain rfl := Option.some.inj ho
      exact eff_ex hk (ex_alloc (tt := lookT tts) rfl) ⟨Fr.alloc _ _, ⟨_, rfl, Blk.new w' t_64_uint32 (u32s (List.replicate 64 0))⟩, fun g h => by simp [own] at h; subst h; simp⟩
    | 8, _, ho, hk, hφ =>
      obtain rfl := Option.some.inj ho
      exact eff_ex hk (ex_alloc (tt := lookT tts) rfl) ⟨Fr.alloc _ _, ⟨_, rfl, Blk.new w' t_64_uint32 (u32s (List.replicate 64 0))⟩, fun g h => by simp [own] at h; subst h; simp⟩
    | _ + 9, h, _, _, _ => omega
  · intro vs w5 hE hφ hlow hap
    have v2 : vs 2 = .agg (u32s A).toArray := hφ 2 (by decide)
    have v3 : vs 3 = .agg (u32s keyL).toArray := hφ 3 (by decide)
    have v5 : vs 5 = .agg (u32s (schedL b 64)).toArray := hφ 5 (by decide)
    obtain ⟨gc, v6, B6⟩ : ∃ g, vs 6 = .pointer (some ⟨g, 0, none⟩) ∧ Blk w5 g t_sha_words (u32s (List.replicate 8 0)) := hφ 6 (by decide)
    obtain ⟨gk, v7, B7⟩ : ∃ g, vs 7 = .pointer (some ⟨g, 0, none⟩) ∧ Blk w5 g t_64_uint32 (u32s (List.replicate 64 0)) := hφ 7 (by decide)
    obtain ⟨gx, v8, B8⟩ : ∃ g, vs 8 = .pointer (some ⟨g, 0, none⟩) ∧ Blk w5 g t_64_uint32 (u32s (List.replicate 64 0)) := hφ 8 (by decide)
    have o6 : own 6 (vs 6) = some gc := by rw [v6]; rfl
    have o7 : own 7 (vs 7) = some gk := by rw [v7]; rfl
    have o8 : own 8 (vs 8) = some gx := by rw [v8]; rfl
    have l6 := hlow 6 (by decide) gc o6
    have l7 := hlow 7 (by decide) gk o7
    have l8 := hlow 8 (by decide) gx o8
    have n67 : gc ≠ gk := fun e => hap 6 7 (by decide) (by decide) (by decide) gc o6 (by rw [o7, e])
    have n68 : gc ≠ gx := fun e => hap 6 8 (by decide) (by decide) (by decide) gc o6 (by rw [o8, e])
    have n78 : gk ≠ gx := fun e => hap 7 8 (by decide) (by decide) (by decide) gk o7 (by rw [o8, e])
    refine ⟨trivial, ?_⟩
    have hX : (schedL b 64).length = 64 := sched_len b 64
    have hK : keyL.length = 64 := rfl
    generalize schedL b 64 = X at *
    generalize keyL = K at *
    refine dw_sub (E' := [(0, .pointer (some ⟨ga, 0, none⟩)), (4, .pointer (some ⟨gc, 0, none⟩)), (5, .pointer (some ⟨gk, 0, none⟩)), (6, .pointer (some ⟨gx, 0, none⟩)), (13, .agg (u32s A).toArray), (14, .agg (u32s K).toArray), (16, .agg (u32s X).toArray)])
      ⟨by kernel_rfl, by rw [← v6]; kernel_rfl, by rw [← v7]; kernel_rfl, by rw [← v8]; kernel_rfl, by rw [← v2]; kernel_rfl, by rw [← v3]; kernel_rfl, by rw [← v5]; kernel_rfl, trivial⟩ ?_
    refine dw_storeW (vs := u32s A) rfl rfl rfl rfl rfl rfl rfl (by rw [hA8]; rfl) (u32s_one _) B6 (by rw [hA8]; rfl) ?_
    intro w6 C6 f6 z6
    refine ⟨trivial, ?_⟩
    refine dw_storeW (vs := u32s K) rfl rfl rfl rfl rfl rfl rfl (by rw [u32s_len, hK]; rfl) (u32s_one _) (B7.fr f6 (by omega)) (by rw [u32s_len, hK]; rfl) ?_
    intro w7 C7 f7 z7
    refine ⟨trivial, ?_⟩
    refine dw_storeW (vs := u32s X) rfl rfl rfl rfl rfl rfl rfl (by rw [u32s_len, hX]; rfl) (u32s_one _) ((B8.fr f6 (by omega)).fr f7 (by omega)) (by rw [u32s_len, hX]; rfl) ?_
    intro w8 C8 f8 z8
    refine ⟨trivial, dw_nil (pn_sub (E' := [(0, .pointer (some ⟨ga, 0, none⟩)), (4, .pointer (some ⟨gc, 0, none⟩)), (5, .pointer (some ⟨gk, 0, none⟩)), (6, .pointer (some ⟨gx, 0, none⟩))]) ⟨rfl, rfl, rfl, rfl, trivial⟩ (H w8 gc gk gx ?_ l6.1 l7.1 l8.1 n67 n68 n78 ((C6.fr f7 (by omega)).fr f8 (by omega)) (C7.fr f8 (by omega)) C8))⟩
    exact ((hE.trans' f6 (fun j hj h => by omega)).trans' f7 (fun j hj h => by omega)).trans' f8 (fun j hj h => by omega)

theorem block_spec {vb : Value} {A b : List Int} {rest : List Value} {ga ta : Nat} {w : World} (hb : VL (Value.int .u8) w vb b) (hl : 64 ≤ b.length) (hA : A.length = 8) (BA : Blk w ga ta (u32s A ++ rest)) :
    Calls Try.prog n_p_sha_words_block #[.pointer (some ⟨ga, 0, none⟩), vb] w fun e w' => (∃ v, e = .returned v) ∧ Blk w' ga ta (u32s (blockM A b) ++ rest) ∧ Fr (· = ga) w w' := by
  have hM : blockM A b = upd A (rnds (toW A) keyL (schedL b 64) 64).l 8 := rfl
  have hX : (schedL b 64).length = 64 := sched_len b 64
  have hK : keyL.length = 64 := rfl
  rw [hM]
  refine enter2 F_p_sha_words_block rfl rfl ?_
  refine cw_seq (block_head hb hl hA BA ?_)
  intro w8 gc gk gx e08 g1 g2 g3 n1 n2 n3 BC BK BX
  generalize schedL b 64 = X at *
  generalize keyL = K at *
  have hga : ga < w.heap.size := BA.lt
  replace BC : Blk w8 gc t_sha_words (u32s (rnds (toW A) K X 0).l) := by
    rwa [show (rnds (toW A) K X 0).l = A from toW_l A hA]
  refine pn_then ?_
  repeat (first | refine o_p rfl rfl rfl ?_ | refine on ?_ | refine sr ?_ | refine ss ?_)
  refine cw_block (cw_loop (G := Nat) (fun i => [(0, .pointer (some ⟨ga, 0, none⟩)), (4, .pointer (some ⟨gc, 0, none⟩)), (5, .pointer (some ⟨gk, 0, none⟩)), (6, .pointer (some ⟨gx, 0, none⟩)), (17, .int .i64 (i : Int))])
    (fun i W => Ext w W ∧ Blk W gc t_sha_words (u32s (rnds (toW A) K X i).l) ∧ Blk W gk t_64_uint32 (u32s K) ∧ Blk W gx t_64_uint32 (u32s X) ∧ i ≤ 64) (fun i => 64 - i) ?_ ?_)
  · exact ⟨0, ⟨rfl, rfl, rfl, rfl, rfl, trivial⟩, e08, BC, BK, BX, by omega⟩
  rintro i W ⟨hE, BC, BK, BX, hi⟩
  try dsimp only
  repeat (first | refine o_p rfl rfl rfl ?_ | refine on ?_ | refine sr ?_ | refine ss ?_)
  refine cw_seq (cw_if rfl (fun h => ?_) (fun h => ?_))
  · have hnx : rnds (toW A) K X (i + 1) = rnd (rnds (toW A) K X i) (K.getD i 0) (X.getD i 0) := rfl
    generalize hs : rnds (toW A) K X i = s at *
    generalize hki : K.getD i 0 = ki at *
    generalize hxi : X.getD i 0 = xi at *
    have ck : ∀ W', Ext W W' → W'.cell? ⟨gk, 0 + i, none⟩ = some (.int .u32 ki) := fun W' hW' => by
      rw [Nat.zero_add, ← hki]; exact Ext.cell hW' ((BK.cell i).trans (u32s_get K i (by omega)))
    have cx : ∀ W', Ext W W' → W'.cell? ⟨gx, 0 + i, none⟩ = some (.int .u32 xi) := fun W' hW' => by
      rw [Nat.zero_add, ← hxi]; exact Ext.cell hW' ((BX.cell i).trans (u32s_get X i (by omega)))
    have cc : ∀ W', Ext W W' → ∀ j, W'.cell? ⟨gc, j, none⟩ = (u32s s.l)[j]? := fun W' hW' j => (BC.ext hW').cell j
    refine (cw_skip (pn_then (cw_seq (cw_block (cw_seq (cw_region ?_))))))
    repeat refine o_p rfl rfl rfl ?_
    have d1 : Ext W W.drew := Fr.drew _
    refine (ow_nil (pn_then (cw_seq (cw_draw flo (fun W' => Ext W W') (by decide +kernel) d1 ?_))))
    refine d_ix (7) rfl rfl rfl rfl (by omega) (by omega) ?_
    refine dw_rd rfl rfl (fun W' hW' => ex_load rfl rfl rfl (cc W' hW' 7)) rfl ?_
    refine d_ix (4) rfl rfl rfl rfl (by omega) (by omega) ?_
    refine dw_rd rfl rfl (fun W' hW' => ex_load rfl rfl rfl (cc W' hW' 4)) rfl ?_
    refine dw_call rfl rfl (ec_call rfl) rfl ((turned_spec _ 6 (by decide) (by decide) _).mono ?_)
    rintro _ _ ⟨rfl, rfl⟩; refine ⟨_, rfl, d1, ?_⟩
    refine d_ix (4) rfl rfl rfl rfl (by omega) (by omega) ?_
    refine dw_rd rfl rfl (fun W' hW' => ex_load rfl rfl rfl (cc W' hW' 4)) rfl ?_
    refine dw_call rfl rfl (ec_call rfl) rfl ((turned_spec _ 11 (by decide) (by decide) _).mono ?_)
    rintro _ _ ⟨rfl, rfl⟩; refine ⟨_, rfl, d1, ?_⟩
    repeat refine d_p rfl rfl rfl rfl ?_
    refine d_ix (4) rfl rfl rfl rfl (by omega) (by omega) ?_
    refine dw_rd rfl rfl (fun W' hW' => ex_load rfl rfl rfl (cc W' hW' 4)) rfl ?_
    refine dw_call rfl rfl (ec_call rfl) rfl ((turned_spec _ 25 (by decide) (by decide) _).mono ?_)
    rintro _ _ ⟨rfl, rfl⟩; refine ⟨_, rfl, d1, ?_⟩
    repeat refine d_p rfl rfl rfl rfl ?_
    refine d_ix (4) rfl rfl rfl rfl (by omega) (by omega) ?_
    refine dw_rd rfl rfl (fun W' hW' => ex_load rfl rfl rfl (cc W' hW' 4)) rfl ?_
    refine d_ix (5) rfl rfl rfl rfl (by omega) (by omega) ?_
    refine dw_rd rfl rfl (fun W' hW' => ex_load rfl rfl rfl (cc W' hW' 5)) rfl ?_
    repeat refine d_p rfl rfl rfl rfl ?_
    refine d_ix (4) rfl rfl rfl rfl (by omega) (by omega) ?_
    refine dw_rd rfl rfl (fun W' hW' => ex_load rfl rfl rfl (cc W' hW' 4)) rfl ?_
    repeat refine d_p rfl rfl rfl rfl ?_
    refine d_ix (6) rfl rfl rfl rfl (by omega) (by omega) ?_
    refine dw_rd rfl rfl (fun W' hW' => ex_load rfl rfl rfl (cc W' hW' 6)) rfl ?_
    repeat refine d_p rfl rfl rfl rfl ?_
    refine d_ix (i) rfl rfl rfl rfl (by omega) (by omega) ?_
    refine dw_rd rfl rfl (fun W' hW' => ex_load rfl rfl rfl (ck W' hW')) rfl ?_
    repeat refine d_p rfl rfl rfl rfl ?_
    refine d_ix (i) rfl rfl rfl rfl (by omega) (by omega) ?_
    refine dw_rd rfl rfl (fun W' hW' => ex_load rfl rfl rfl (cx W' hW')) rfl ?_
    repeat refine d_p rfl rfl rfl rfl ?_
    have d2 : Ext W W.drew.drew := d1.trans (Fr.drew _)
    refine (dw_nil (pn_then (cw_seq (cw_draw flo (fun W' => Ext W W') (by decide +kernel) d2 ?_))))
    refine d_ix (0) rfl rfl rfl rfl (by omega) (by omega) ?_
    refine dw_rd rfl rfl (fun W' hW' => ex_load rfl rfl rfl (cc W' hW' 0)) rfl ?_
    refine dw_call rfl rfl (ec_call rfl) rfl ((turned_spec _ 2 (by decide) (by decide) _).mono ?_)
    rintro _ _ ⟨rfl, rfl⟩; refine ⟨_, rfl, d2, ?_⟩
    refine d_ix (0) rfl rfl rfl rfl (by omega) (by omega) ?_
    refine dw_rd rfl rfl (fun W' hW' => ex_load rfl rfl rfl (cc W' hW' 0)) rfl ?_
    refine dw_call rfl rfl (ec_call rfl) rfl ((turned_spec _ 13 (by decide) (by decide) _).mono ?_)
    rintro _ _ ⟨rfl, rfl⟩; refine ⟨_, rfl, d2, ?_⟩
    repeat refine d_p rfl rfl rfl rfl ?_
    refine d_ix (0) rfl rfl rfl rfl (by omega) (by omega) ?_
    refine dw_rd rfl rfl (fun W' hW' => ex_load rfl rfl rfl (cc W' hW' 0)) rfl ?_
    refine dw_call rfl rfl (ec_call rfl) rfl ((turned_spec _ 22 (by decide) (by decide) _).mono ?_)
    rintro _ _ ⟨rfl, rfl⟩; refine ⟨_, rfl, d2, ?_⟩
    repeat refine d_p rfl rfl rfl rfl ?_
    refine d_ix (0) rfl rfl rfl rfl (by omega) (by omega) ?_
    refine dw_rd rfl rfl (fun W' hW' => ex_load rfl rfl rfl (cc W' hW' 0)) rfl ?_
    refine d_ix (1) rfl rfl rfl rfl (by omega) (by omega) ?_
    refine dw_rd rfl rfl (fun W' hW' => ex_load rfl rfl rfl (cc W' hW' 1)) rfl ?_
    repeat refine d_p rfl rfl rfl rfl ?_
    refine d_ix (0) rfl rfl rfl rfl (by omega) (by omega) ?_
    refine dw_rd rfl rfl (fun W' hW' => ex_load rfl rfl rfl (cc W' hW' 0)) rfl ?_
    refine d_ix (2) rfl rfl rfl rfl (by omega) (by omega) ?_
    refine dw_rd rfl rfl (fun W' hW' => ex_load rfl rfl rfl (cc W' hW' 2)) rfl ?_
    repeat refine d_p rfl rfl rfl rfl ?_
    refine d_ix (1) rfl rfl rfl rfl (by omega) (by omega) ?_
    refine dw_rd rfl rfl (fun W' hW' => ex_load rfl rfl rfl (cc W' hW' 1)) rfl ?_
    refine d_ix (2) rfl rfl rfl rfl (by omega) (by omega) ?_
    refine dw_rd rfl rfl (fun W' hW' => ex_load rfl rfl rfl (cc W' hW' 2)) rfl ?_
    repeat refine d_p rfl rfl rfl rfl ?_
    refine (dw_nil (pn_then (cw_region ?_)))
    repeat refine o_p rfl rfl rfl ?_
    refine o_ix (0) rfl rfl rfl (by omega) (by omega) ?_
    refine ow_ex rfl (ex_load rfl rfl rfl (cc _ d2 0)) rfl ?_
    refine o_ix (1) rfl rfl rfl (by omega) (by omega) ?_
    refine ow_ex rfl (ex_load rfl rfl rfl (cc _ d2 1)) rfl ?_
    refine o_ix (2) rfl rfl rfl (by omega) (by omega) ?_
    refine ow_ex rfl (ex_load rfl rfl rfl (cc _ d2 2)) rfl ?_
    refine o_ix (3) rfl rfl rfl (by omega) (by omega) ?_
    refine ow_ex rfl (ex_load rfl rfl rfl (cc _ d2 3)) rfl ?_
    repeat refine o_p rfl rfl rfl ?_
    refine o_ix (4) rfl rfl rfl (by omega) (by omega) ?_
    refine ow_ex rfl (ex_load rfl rfl rfl (cc _ d2 4)) rfl ?_
    refine o_ix (5) rfl rfl rfl (by omega) (by omega) ?_
    refine ow_ex rfl (ex_load rfl rfl rfl (cc _ d2 5)) rfl ?_
    refine o_ix (6) rfl rfl rfl (by omega) (by omega) ?_
    refine ow_ex rfl (ex_load rfl rfl rfl (cc _ d2 6)) rfl ?_
    refine o_b rfl rfl rfl ?_
    refine ow_storeW (vs := u32s (rnd s ki xi).l) rfl rfl rfl rfl rfl rfl rfl (u32s_one _) (BC.ext d2) rfl ?_
    intro W9 B9 f9 z9
    refine (ow_nil (pn_block (pn_then (cw_region ?_))))
    refine o_c rfl rfl rfl (by unfold I64; omega) ?_
    repeat refine o_p rfl rfl rfl ?_
    have hsz := d2.size
    refine (ow_nil (pn_round (i + 1) ?_ ?_ ?_))
    · exact ⟨rfl, rfl, rfl, rfl, rfl, trivial⟩
    · refine ⟨(hE.trans d2).trans' f9 (fun j hj h => by omega), ?_, (BK.ext d2).fr f9 (by omega), (BX.ext d2).fr f9 (by omega), by omega⟩
      rw [hnx]; exact B9
    · show 64 - (i + 1) < 64 - i; omega
  · obtain rfl : i = 64 := by omega
    generalize hC : (rnds (toW A) K X 64).l = C at *
    have hC8 : C.length = 8 := by rw [← hC]; rfl
    refine (cw_exit (pn_then_exit (pn_loop_exit (pn_block_exit (pn_then (cw_seq (cw_region ?_)))))))
    repeat (first | refine o_p rfl rfl rfl ?_ | refine on ?_ | refine sr ?_ | refine ss ?_)
    refine cw_block (cw_loop (G := Nat) (fun i => [(0, .pointer (some ⟨ga, 0, none⟩)), (4, .pointer (some ⟨gc, 0, none⟩)), (105, .int .i64 (i : Int))])
      (fun i W => Fr (· = ga) w W ∧ Blk W ga ta (u32s (upd A C i) ++ rest) ∧ Blk W gc t_sha_words (u32s C) ∧ i ≤ 8) (fun i => 8 - i) ?_ ?_)
    · exact ⟨0, ⟨rfl, rfl, rfl, trivial⟩, Ext.fr hE, by rw [upd_zero A C hA]; exact BA.ext hE, BC, by omega⟩
    rintro i W ⟨hE, BA, BC, hi⟩
    try dsimp only
    repeat (first | refine o_p rfl rfl rfl ?_ | refine on ?_ | refine sr ?_ | refine ss ?_)
    refine cw_seq (cw_if rfl (fun h => ?_) (fun h => ?_))
    · have d1 : Ext W W.drew := Fr.drew _
      have hu8 : (u32s (upd A C i)).length = 8 := by rw [u32s_len, upd_len]
      have ca : W.drew.cell? ⟨ga, 0 + i, none⟩ = some (.int .u32 (A.getD i 0)) := by
        rw [Nat.zero_add, (BA.ext d1).cell i, List.getElem?_append_left (by omega), u32s_get _ _ (by rw [upd_len]; omega), upd_get _ _ _ _ (by omega), if_neg (by omega)]
      have cc : W.drew.cell? ⟨gc, 0 + i, none⟩ = some (.int .u32 (C.getD i 0)) := by
        rw [Nat.zero_add, (BC.ext d1).cell i, u32s_get _ _ (by omega)]
      have cf : W.drew.frozen? ⟨ga, 0 + i, none⟩ = false := (BA.ext d1).frozen _
      refine (cw_skip (pn_then (cw_seq (cw_block (cw_seq (cw_region ?_))))))
      repeat refine o_p rfl rfl rfl ?_
      have hgag : ga ≠ gc := by omega
      refine (ow_nil (pn_then (cw_draw2 flo 11 (fun W' => (W'.cell? ⟨gc, 0 + i, none⟩ = some (.int .u32 (C.getD i 0))) ∧ (W'.cell? ⟨ga, 0 + i, none⟩ = some (.int .u32 (A.getD i 0)))) (fun _ => True) rfl (by decide +kernel) ⟨cc, ca⟩ ?_)))
      repeat refine d_p rfl rfl rfl rfl ?_
      refine d_ix (i) rfl rfl rfl rfl (by omega) (by omega) ?_
      refine dw_rd rfl rfl (fun W' hW' => ex_load rfl rfl rfl (hW'.2)) rfl ?_
      repeat refine d_p rfl rfl rfl rfl ?_
      refine d_ix (i) rfl rfl rfl rfl (by omega) (by omega) ?_
      refine dw_rd rfl rfl (fun W' hW' => ex_load rfl rfl rfl (hW'.1)) rfl ?_
      repeat refine d_p rfl rfl rfl rfl ?_
      refine d_ix (i) rfl rfl rfl rfl (by omega) (by omega) ?_
      refine dw_nil (pn_draw2 rfl trivial ?_)
      refine dw_eu rfl rfl (eu_store rfl rfl rfl rfl rfl ca cf) trivial ?_
      refine (dw_nil (pn_block (pn_then (cw_region ?_))))
      refine o_c rfl rfl rfl (by unfold I64; omega) ?_
      repeat refine o_p rfl rfl rfl ?_
      have Bs := (BA.ext d1).set i (.int .u32 (add32 (A.getD i 0) (C.getD i 0)))
      rw [List.set_append_left _ _ (by omega)] at Bs
      have hset : (u32s (upd A C i)).set i (.int .u32 (add32 (A.getD i 0) (C.getD i 0))) = u32s (upd A C (i + 1)) := by
        rw [← upd_set A C i (by omega)]; simp [u32s, List.map_set]
      rw [hset] at Bs
      have hzz : 0 + mulz i 1 = i := by rw [mulz_eq]; omega
      refine (ow_nil (pn_round (i + 1) ?_ ?_ ?_))
      · exact ⟨rfl, rfl, rfl, trivial⟩
      · refine ⟨(hE.trans (Ext.fr d1)).trans (Fr.setCell W.drew ⟨ga, _, none⟩ _), ?_, (BC.ext d1).fr (Fr.setCell _ _ _) (by simp; omega), by omega⟩
        rw [hzz]; exact Bs
      · show 8 - (i + 1) < 8 - i; omega
    · refine (cw_exit (pn_then_exit (pn_loop_exit (pn_block_exit (pn_end0 rfl ⟨⟨_, rfl⟩, ?_, hE⟩)))))
      obtain rfl : i = 8 := by omega
      exact BA
end Go.Proofs.Ytgebobjihojljaa
