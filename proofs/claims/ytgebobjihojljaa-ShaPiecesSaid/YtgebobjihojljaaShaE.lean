/- Digests, part five: bytes are written into a hash. Conditions: the hash lies whole in a block of its own; the bytes may be read, and lie elsewhere; not too many. -/
import Derived.Test.YtgebobjihojljaaShaD
namespace Go.Proofs.Ytgebobjihojljaa
open Go.Eng Go.RowKit

abbrev u8s (l : List Int) : List Value := l.map (Value.int .u8)
theorem u8s_one (l : List Int) : ∀ u ∈ u8s l, u.oneCell' = true := by intro u hu; obtain ⟨x, _, rfl⟩ := List.mem_map.1 hu; rfl
/-- Whole blocks are taken in, from the head. -/
def absorb : Nat → List Int → List Int → List Int × List Int
  | 0, a, l => (a, l)
  | k + 1, a, l => if 64 ≤ l.length then absorb k (blockM a (l.take 64)) (l.drop 64) else (a, l)
theorem absorb_end (k : Nat) (a l : List Int) (h : l.length < 64) : absorb k a l = (a, l) := by
  cases k with
  | zero => rfl
  | succ k => rw [absorb, if_neg (by omega)]
theorem hashC_set9 (a : List Int) (r : Value) (n n' : Int) (m : Bool) (h : a.length = 8) : (hashC a r n m).set 9 (.int .i64 n') = hashC a r n' m := by
  match a, h with
  | [_, _, _, _, _, _, _, _], _ => rfl
theorem hashC_set8 (a : List Int) (r r' : Value) (n : Int) (m : Bool) (h : a.length = 8) : (hashC a r n m).set 8 r' = hashC a r' n m := by
  match a, h with
  | [_, _, _, _, _, _, _, _], _ => rfl
abbrev OB (w : World) (base : Nat) (v : Value) (l : List Int) : Prop := Oat w base t_uint8 1 v l.length (u8s l)

theorem Write_spec {g base : Nat} {a rs b : List Int} {r vb : Value} {n : Int} {w : World} (hB : Blk w g t_sha_Hash (hashC a r n true)) (ha : a.length = 8) (hr : OB w base r rs) (hrg : r.ownBlock ≠ some g) (hgb : g < base) (hbase : base ≤ w.heap.size)
    (hb : VL (Value.int .u8) w vb b) (hvb : ∀ k, inBlk vb k → k ≠ g) (hn : 0 ≤ n ∧ n ≤ 1048576) (hlen : rs.length + b.length ≤ 1048576) :
    Calls Try.prog n_p_sha_Hash_Write #[.pointer (some ⟨g, 0, none⟩), vb] w fun e w' => e = .returned (.int .i64 0) ∧ ∃ r', Blk w' g t_sha_Hash (hashC (absorb (rs.length + b.length) a (rs ++ b)).1 r' (n + b.length) true) ∧
      OB w' base r' (absorb (rs.length + b.length) a (rs ++ b)).2 ∧ Fr (fun k => k = g ∨ r.ownBlock = some k) w w' := by
  obtain ⟨A, c, rfl, hnc, hcm, hz, hcell⟩ := hb.op
  have h9 := (hB.cell 9).trans (hashC_8 a r n true ha).2.1
  refine enter2 F_p_sha_Hash_Write rfl rfl ?_
  repeat (first | refine o_p rfl rfl rfl ?_ | refine on ?_ | refine sr ?_ | refine ss ?_)
  refine ow_call rfl (ec_call rfl) rfl ((none_spec hB ha).mono ?_)
  rintro _ _ ⟨rfl, rfl⟩; refine ⟨_, rfl, ?_⟩
  refine on (cw_cond_f rfl (cw_skip (pn_then (sr ?_))))
  repeat refine o_p rfl rfl rfl ?_
  refine ow_ex rfl (ex_load rfl rfl rfl (h9)) rfl ?_
  repeat refine o_p rfl rfl rfl ?_
  refine o_c rfl rfl rfl (by unfold I64; omega) ?_
  repeat refine o_p rfl rfl rfl ?_
  refine ow_eu rfl (eu_store rfl rfl rfl rfl rfl h9 (hB.frozen 9)) ?_
  have B1 := hB.set 9 (.int .i64 (n + b.length))
  rw [hashC_set9 _ _ _ _ _ ha] at B1
  have f1 := Fr.setCell w ⟨g, 9, none⟩ (.int .i64 (n + b.length))
  change OW _ _ _ _ _ _ _ _ (w.setCell ⟨g, 9, none⟩ (.int .i64 (n + b.length)))
  have z1 : (w.setCell ⟨g, 9, none⟩ (.int .i64 (n + b.length))).heap.size = w.heap.size := by simp
  generalize w.setCell ⟨g, 9, none⟩ (.int .i64 (n + b.length)) = w1 at *
  have hr1 := hr.fr f1 (fun k hk h => hrg (by rw [hk, h]))
  have hb1 := VL.fr hb f1 (fun k hk h => hvb k hk h)
  refine on (sr ?_)
  repeat refine o_p rfl rfl rfl ?_
  refine ow_ex rfl (ex_load rfl rfl rfl ((B1.cell 8).trans (hashC_8 a r _ true ha).1)) rfl ?_
  repeat refine o_p rfl rfl rfl ?_
  refine ow_appendO rfl rfl rfl rfl rfl rfl rfl rfl hr1 hb1 (u8s_one _) (by omega) (by omega) ?_
  intro r' w2 own fr
  have hl0 : u8s rs ++ u8s b = u8s (rs ++ b) := by simp [u8s]
  have hown : OB w2 base r' (rs ++ b) := by
    unfold OB
    rw [List.length_append, ← hl0]; exact own
  have B2 := B1.fr fr (fun h => hrg h)
  repeat refine o_p rfl rfl rfl ?_
  refine ow_eu rfl (eu_store rfl rfl rfl rfl hown.one ((B2.cell 8).trans (hashC_8 a r _ true ha).1) (B2.frozen 8)) ?_
  have B3 := B2.set 8 r'
  rw [hashC_set8 _ _ _ _ _ ha] at B3
  have f3 := Fr.setCell w2 ⟨g, 8, none⟩ r'
  change OW _ _ _ _ _ _ _ _ (w2.setCell ⟨g, 8, none⟩ r')
  have z3 : (w2.setCell ⟨g, 8, none⟩ r').heap.size = w2.heap.size := by simp
  generalize w2.setCell ⟨g, 8, none⟩ r' = w3 at *
  have hown3 : OB w3 base r' (rs ++ b) := hown.fr f3 (fun k hk h => by have := (hown.block hk).1; simp at h; omega)
  have F3 : Fr (fun k => k = g ∨ r.ownBlock = some k) w w3 :=
    ((f1.mono fun k _ h => .inl h).trans (fr.mono fun k _ h => .inr h)).trans (f3.mono fun k _ h => .inl h)
  clear B1 B2 hr1 hb1 f1 f3 fr own hown
  refine on (cw_seq (cw_block (cw_loop (G := List Int × List Int × Value) (fun s => [(0, .pointer (some ⟨g, 0, none⟩))])
    (fun s W => Fr (fun k => k = g ∨ r.ownBlock = some k) w W ∧ Blk W g t_sha_Hash (hashC s.1 s.2.2 (n + b.length) true) ∧ s.1.length = 8 ∧ OB W base s.2.2 s.2.1 ∧ s.2.1.length ≤ 1048576 ∧
      ∃ k, s.2.1.length ≤ k ∧ absorb k s.1 s.2.1 = absorb (rs.length + b.length) a (rs ++ b)) (fun s => s.2.1.length) ?_ ?_)))
  · exact ⟨(a, rs ++ b, r'), ⟨rfl, trivial⟩, F3, B3, ha, hown3, by simp; omega, rs.length + b.length, by simp, rfl⟩
  rintro ⟨a', l, r2⟩ W ⟨hF, B, ha', hO, hl, k, hk, hab⟩
  dsimp only at B ha' hO hl hk hab ⊢
  obtain ⟨A2, c2, rfl, hc1, hc2, hc3⟩ := Oat.form hO
  have h8 := (B.cell 8).trans (hashC_8 a' _ _ true ha').1
  repeat (first | refine o_p rfl rfl rfl ?_ | refine on ?_ | refine sr ?_ | refine ss ?_)
  refine ow_ex rfl (ex_load rfl rfl rfl (h8)) rfl ?_
  repeat refine o_p rfl rfl rfl ?_
  refine on (cw_if rfl (fun h => ?_) (fun h => ?_))
  · have hl64 : 64 ≤ l.length := by omega
    obtain ⟨g2, off2, rfl⟩ := hc3 (by omega)
    have hz2 : ¬ c2 = 0 := by omega
    have hg2 : base ≤ g2 := (Oat.block hO rfl).1
    have ht := Oat.take hO (k := 64) hl64
    have htk : (u8s l).take (64 * 1) = u8s (l.take 64) := by simp [u8s, List.map_take]
    have hdk : (u8s l).drop (64 * 1) = u8s (l.drop 64) := by simp [u8s, List.map_drop]
    rw [htk] at ht
    have hvl : VL (Value.int .u8) W (.slice (some ⟨g2, off2, none⟩) 64 c2) (l.take 64) := by
      have h1 : (l.take 64).length = 64 := by simp; omega
      unfold VL
      rw [h1]; exact ht.sl
    have S1 : W.drew.cell? ⟨g, 8, none⟩ = some (.slice (some ⟨g2, off2, none⟩) l.length c2) := Ext.cell (Fr.drew _) h8
    refine (cw_skip (pn_then (cw_block (cw_seq (cw_draw2 flo 8 (fun W' => W'.cell? ⟨g, 8, none⟩ = some (.slice (some ⟨g2, off2, none⟩) l.length c2)) (fun _ => True) rfl (by decide +kernel) S1 ?_)))))
    repeat refine d_p rfl rfl rfl rfl ?_
    refine dw_rd rfl rfl (fun W' hW' => ex_load rfl rfl rfl (hW')) rfl ?_
    refine d_c rfl rfl rfl rfl (by omega) ?_
    refine d_know 38 (.slice (some ⟨g2, off2, none⟩) 64 c2) rfl (by rw [if_neg hz2]; simp [Addr.add]) ?_
    refine dw_nil (pn_draw2 rfl trivial ?_)
    have Bd := B.ext (Fr.drew W)
    refine dw_call rfl rfl (ec_call rfl) rfl ((block_spec (A := a') (b := l.take 64) (rest := [.slice (some ⟨g2, off2, none⟩) l.length c2, .int .i64 (n + b.length), .bool true]) (hvl.ext (Fr.drew W)) (by simp; omega) ha' Bd).mono ?_)
    rintro _ W4 ⟨⟨u4, rfl⟩, B4, f4⟩
    refine ⟨_, rfl, trivial, ?_⟩
    have f4' : Fr (· = g) W W4 := (Fr.drew W).trans f4
    have B4 : Blk W4 g t_sha_Hash (hashC (blockM a' (l.take 64)) (.slice (some ⟨g2, off2, none⟩) l.length c2) (n + b.length) true) := B4
    have hb8 := blockM_len a' (l.take 64)
    have hO4 : OB W4 base (.slice (some ⟨g2, off2, none⟩) l.length c2) l := hO.fr f4' (fun k hk h => by have := (hO.block hk).1; omega)
    have h84 := (B4.cell 8).trans (hashC_8 _ _ _ true hb8).1
    refine dw_nil (pn_then (cw_region ?_))
    repeat refine o_p rfl rfl rfl ?_
    refine ow_ex rfl (ex_load rfl rfl rfl (h84)) rfl ?_
    refine o_c rfl rfl rfl (by omega) ?_
    repeat refine o_p rfl rfl rfl ?_
    have hO5 := Oat.drop hO4 (k := 64) hl64
    rw [hdk] at hO5
    have h1 : (l.drop 64).length = l.length - 64 := by simp
    have hO5 : OB W4 base (.slice (if c2 = 64 then some ⟨g2, off2, none⟩ else (some ⟨g2, off2, none⟩ : Option Addr).map (·.add (64 * 1))) (l.length - 64) (c2 - 64)) (l.drop 64) := by unfold OB; rw [h1]; exact hO5
    refine ow_eu rfl (eu_store rfl rfl rfl rfl rfl h84 (B4.frozen 8)) ?_
    have B5 := B4.set 8 (.slice (if c2 = 64 then some ⟨g2, off2, none⟩ else (some ⟨g2, off2, none⟩ : Option Addr).map (·.add (64 * 1))) (l.length - 64) (c2 - 64))
    rw [hashC_set8 _ _ _ _ _ hb8] at B5
    have f5 := Fr.setCell W4 ⟨g, 8, none⟩ (.slice (if c2 = 64 then some ⟨g2, off2, none⟩ else (some ⟨g2, off2, none⟩ : Option Addr).map (·.add (64 * 1))) (l.length - 64) (c2 - 64))
    refine (ow_nil (pn_block (pn_round (blockM a' (l.take 64), l.drop 64, (.slice (if c2 = 64 then some ⟨g2, off2, none⟩ else (some ⟨g2, off2, none⟩ : Option Addr).map (·.add (64 * 1))) (l.length - 64) (c2 - 64))) ?_ ?_ ?_)))
    · exact ⟨rfl, trivial⟩
    · refine ⟨(hF.trans (f4'.mono fun k _ h => .inl h)).trans (f5.mono fun k _ h => .inl h), B5, hb8, hO5.fr f5 (fun k hk h => by have := (hO5.block hk).1; simp at h; omega), by simp; omega, ?_⟩
      cases k with
      | zero => omega
      | succ k =>
        refine ⟨k, by simp; omega, ?_⟩
        rw [← hab]
        show _ = absorb (k + 1) a' l
        rw [absorb, if_pos hl64]
    · show (l.drop 64).length < l.length
      simp; omega
  · refine (cw_exit (pn_then_exit (pn_loop_exit (pn_block_exit (pn_then (sr ?_))))))
    repeat refine o_p rfl rfl rfl ?_
    have he := absorb_end k a' l (by omega)
    rw [hab] at he
    refine (ow_nil (pn_then (cw_ret (pn_ret rfl rfl ⟨rfl, .slice A2 l.length c2, ?_, ?_, hF⟩))))
    · rw [he]; exact B
    · rw [he]; exact hO
end Go.Proofs.Ytgebobjihojljaa
