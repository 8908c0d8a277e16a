/- The engine, part ten: what the call itself made, seen from a place within (a slice that has been cut in front), appended to, stored into. Conditions: as part two. -/
import Derived.Test.YtgebobjihojljaaEngJ
namespace Go.Eng
open Go Go.RowKit

/-- A slice within a block that the call made. -/
def Oat (w : World) (base e sz : Nat) (v : Value) (n : Nat) (cs : List Value) : Prop :=
  cs.length = n * sz ∧ ((v = .slice none 0 0 ∧ n = 0) ∨
    ∃ g off cap cur, v = .slice (some ⟨g, off, none⟩) n cap ∧ base ≤ g ∧ w.heap[g]? = some (.cells cur e (0, 0)) ∧ n ≤ cap ∧ cap ≤ maxLen ∧ off + cap * sz ≤ cur.size ∧ (cur.toList.drop off).take (n * sz) = cs)

theorem Mine.oat {w : World} {base e sz n : Nat} {v : Value} {cs : List Value} (h : Mine w base e sz v n cs) : Oat w base e sz v n cs := by
  refine ⟨h.1, h.2.imp id ?_⟩
  rintro ⟨g, cap, cur, rfl, hb, hh, hn, hc, hcur, ht⟩
  exact ⟨g, 0, cap, cur, rfl, hb, hh, hn, hc, by omega, by simpa using ht⟩
theorem Oat.nil (w : World) (base e sz : Nat) : Oat w base e sz (.slice none 0 0) 0 [] := ⟨by simp, .inl ⟨rfl, rfl⟩⟩
theorem Oat.fr {w w' : World} {base e sz n : Nat} {v : Value} {cs : List Value} {S : Nat → Prop} (h : Oat w base e sz v n cs) (hf : Fr S w w') (hs : ∀ k, v.ownBlock = some k → ¬ S k) : Oat w' base e sz v n cs := by
  refine ⟨h.1, h.2.imp id ?_⟩
  rintro ⟨g, off, cap, cur, rfl, hb, hh, rest⟩
  exact ⟨g, off, cap, cur, rfl, hb, (hf.keep g (Array.getElem?_eq_some_iff.1 hh).1 (hs g rfl)).trans hh, rest⟩
theorem Oat.ext {w w' : World} {base e sz n : Nat} {v : Value} {cs : List Value} (h : Oat w base e sz v n cs) (hf : Ext w w') : Oat w' base e sz v n cs := Oat.fr h hf fun _ _ => id
theorem Oat.weaken {w : World} {base base' e sz n : Nat} {v : Value} {cs : List Value} (h : Oat w base e sz v n cs) (hb : base' ≤ base) : Oat w base' e sz v n cs := by
  refine ⟨h.1, h.2.imp id ?_⟩
  rintro ⟨g, off, cap, cur, rfl, hb', rest⟩
  exact ⟨g, off, cap, cur, rfl, by omega, rest⟩
theorem Oat.block {w : World} {base e sz n k : Nat} {v : Value} {cs : List Value} (h : Oat w base e sz v n cs) (hk : v.ownBlock = some k) : base ≤ k ∧ k < w.heap.size := by
  rcases h.2 with ⟨rfl, _⟩ | ⟨g, off, cap, cur, rfl, hb, hh, _⟩
  · cases hk
  · simp only [Value.ownBlock, Option.some.injEq] at hk
    subst hk
    exact ⟨hb, (Array.getElem?_eq_some_iff.1 hh).1⟩
theorem Oat.sl {w : World} {base e sz n : Nat} {v : Value} {cs : List Value} (h : Oat w base e sz v n cs) : SL w sz v n cs := by
  rcases h.2 with ⟨rfl, rfl⟩ | ⟨g, off, cap, cur, rfl, hb, hh, hn, hc, hcur, ht⟩
  · have := h.1
    simp at this
    subst this
    exact SL.nil w sz
  · refine ⟨_, cap, rfl, h.1, hn, hc, by simp, fun _ => ⟨g, off, rfl, (Array.getElem?_eq_some_iff.1 hh).1, fun j hj => ?_⟩⟩
    rw [cell_of_row w g (off + j) cur e (0, 0) hh]
    rw [h.1] at hj
    rw [← ht, List.getElem?_take, if_pos hj, List.getElem?_drop]
    simp
theorem Oat.one {w : World} {base e sz n : Nat} {v : Value} {cs : List Value} (h : Oat w base e sz v n cs) : v.oneCell' = true := by
  rcases h.2 with ⟨rfl, _⟩ | ⟨_, _, _, _, rfl, _⟩ <;> rfl
theorem Oat.form {w : World} {base e sz n : Nat} {v : Value} {cs : List Value} (h : Oat w base e sz v n cs) : ∃ A c, v = .slice A n c ∧ n ≤ c ∧ c ≤ 9223372036854775807 ∧ (0 < c → ∃ g off, A = some ⟨g, off, none⟩) := by
  rcases h.2 with ⟨rfl, rfl⟩ | ⟨g, off, cap, cur, rfl, hb, hh, hn, hc, hcur, ht⟩
  · exact ⟨_, _, rfl, Nat.le_refl _, by omega, fun h => absurd h (by omega)⟩
  · exact ⟨_, _, rfl, hn, by unfold maxLen at hc; omega, fun _ => ⟨g, off, rfl⟩⟩
/-- Cut in front. -/
theorem Oat.drop {w : World} {base e sz n k : Nat} {A : Option Addr} {c : Nat} {cs : List Value} (h : Oat w base e sz (.slice A n c) n cs) (hk : k ≤ n) :
    Oat w base e sz (.slice (if c = k then A else A.map (·.add (k * sz))) (n - k) (c - k)) (n - k) (cs.drop (k * sz)) := by
  refine ⟨by rw [List.length_drop, h.1, Nat.sub_mul], ?_⟩
  rcases h.2 with ⟨hv, rfl⟩ | ⟨g, off, cap, cur, hv, hb, hh, hn, hc, hcur, ht⟩
  · simp only [Value.slice.injEq] at hv
    obtain ⟨rfl, _, rfl⟩ := hv
    obtain rfl : k = 0 := by omega
    exact .inl ⟨by simp, rfl⟩
  · simp only [Value.slice.injEq, true_and] at hv
    obtain ⟨rfl, rfl⟩ := hv
    by_cases hck : c = k
    · subst hck
      refine .inr ⟨g, off, 0, cur, by simp, hb, hh, by omega, by omega, by simp at hcur ⊢; omega, ?_⟩
      obtain rfl : n = c := by omega
      rw [← h.1]
      simp
    · have ha : (⟨g, off, none⟩ : Addr).add (k * sz) = ⟨g, off + k * sz, none⟩ := by unfold Addr.add; split <;> simp_all
      refine .inr ⟨g, off + k * sz, c - k, cur, by rw [if_neg hck]; simp [ha], hb, hh, by omega, by omega, ?_, ?_⟩
      · have : (c - k) * sz + k * sz = c * sz := by rw [← Nat.add_mul]; congr 1; omega
        omega
      · rw [← ht, List.drop_take, List.drop_drop, Nat.sub_mul]
/-- Cut behind. -/
theorem Oat.take {w : World} {base e sz n k : Nat} {A : Option Addr} {c : Nat} {cs : List Value} (h : Oat w base e sz (.slice A n c) n cs) (hk : k ≤ n) : Oat w base e sz (.slice A k c) k (cs.take (k * sz)) := by
  have hle : k * sz ≤ n * sz := Nat.mul_le_mul_right _ hk
  refine ⟨by rw [List.length_take, h.1]; omega, ?_⟩
  rcases h.2 with ⟨hv, rfl⟩ | ⟨g, off, cap, cur, hv, hb, hh, hn, hc, hcur, ht⟩
  · simp only [Value.slice.injEq] at hv
    obtain ⟨rfl, _, rfl⟩ := hv
    obtain rfl : k = 0 := by omega
    exact .inl ⟨rfl, rfl⟩
  · simp only [Value.slice.injEq, true_and] at hv
    obtain ⟨rfl, rfl⟩ := hv
    refine .inr ⟨g, off, c, cur, rfl, hb, hh, by omega, hc, hcur, ?_⟩
    rw [← ht, List.take_take]
    congr 1
    omega

theorem run_appendO {P : Program} {tt : Nat → Option TI} [TT P tt] {w : World} {base t ty e n m : Nat} {i : TI} {s1 s2 : Nat} {z1 : Value} {f1 : List (Nat × Nat)} (ht : tt t = some ⟨.slice e, s1, s2, z1, f1⟩) (he : tt e = some i) (hz : i.zero.cells.size = i.size) (hsz : 0 < i.size)
    {v vx : Value} {cs news : List Value} (hown : Oat w base e i.size v n cs) (hx : SL w i.size vx m news) (h1 : ∀ u ∈ news, u.oneCell' = true)
    (h63 : n + m ≤ maxLen) (hbytes : (n + m) * i.bytes ≤ 140737488355328) (hbase : base ≤ w.heap.size) :
    ∃ v' w', (Builtin.append_ #[t, t] ty #[v, vx]).run P w = .ok v' w' ∧ Oat w' base e i.size v' (n + m) (cs ++ news) ∧ Fr (fun k => v.ownBlock = some k) w w' := by
  rcases hown.2 with ⟨rfl, rfl⟩ | ⟨g, off, cap, cur, rfl, hbg, hh, hnc, hcm, hcs, htake⟩
  · have hm : Mine w base e i.size (.slice none 0 0) 0 cs := ⟨hown.1, .inl ⟨rfl, rfl⟩⟩
    obtain ⟨v', w', h2, h3, h4⟩ := run_append (P := P) (ty := ty) ht he hz hsz hm hx h1 h63 hbytes hbase
    exact ⟨v', w', h2, Mine.oat h3, h4⟩
  · obtain ⟨j, hj, h2, h3, h4⟩ := TT.info (P := P) e i he
    have hu := TT.und (P := P) t _ ht rfl
    have hlen : (cs ++ news).length = (n + m) * i.size := by rw [List.length_append, hown.1, hx.choose_spec.choose_spec.2.1, Nat.add_mul]
    obtain ⟨A, c, rfl, hl, hc, hm, hz0, hcell⟩ := hx
    cases A with
    | none =>
      have hm0 : m = 0 := by have := hz0 rfl; omega
      subst hm0
      have hn : news = [] := List.eq_nil_of_length_eq_zero (by simpa using hl)
      subst hn
      refine ⟨_, w, ?_, by simpa using hown, Fr.refl _ w⟩
      simp [Builtin.append_, run_underlying hu, sizeOf, typeInfo, hj, Builtin.lenOf, Builtin.firstCells, hnc, storeCells]
    | some a =>
      have hnews : ∀ k u, news[k]? = some u → w.cell? (a.add k) = some u := by
        intro k u hk
        have hlt : k < news.length := (List.getElem?_eq_some_iff.1 hk).1
        have hm0 : 0 < m := by
          rcases Nat.eq_zero_or_pos m with h0 | h0
          · subst h0; simp at hl; subst hl; simp at hlt
          · exact h0
        obtain ⟨b, off', hab, hb, hcc⟩ := hcell hm0
        cases hab
        have ha : (⟨b, off', none⟩ : Addr).add k = ⟨b, off' + k, none⟩ := by unfold Addr.add; split <;> simp_all
        rw [ha, hcc k hlt, hk]
      have hsmall : n + m ≤ 9223372036854775807 := by simp only [maxLen] at h63; omega
      by_cases hroom : n + m ≤ cap
      · have hfit : off + n * i.size + 0 + news.length ≤ cur.size := by
          have : (n + m) * i.size ≤ cap * i.size := Nat.mul_le_mul_right _ hroom
          rw [Nat.add_mul] at this
          omega
        have hf := run_firstCells_some (P := P) w i.size m a m c news hl hnews
        have hst := run_storeCells_at P g (off + n * i.size) e news 0 cur w hh hfit h1
        simp only [Nat.add_zero] at hst
        have ha : (⟨g, off, none⟩ : Addr).add (n * i.size) = ⟨g, off + n * i.size, none⟩ := by unfold Addr.add; split <;> simp_all
        obtain ⟨row, hrow⟩ : ∃ row : List Value, row = cur.toList.take (off + n * i.size) ++ news ++ cur.toList.drop (off + n * i.size + news.length) := ⟨_, rfl⟩
        rw [← hrow] at hst
        refine ⟨.slice (some ⟨g, off, none⟩) (n + m) cap, w.setRow g row.toArray, ?_, ⟨hlen, .inr ⟨g, off, cap, row.toArray, rfl, hbg, setRow_heap w g cur _ e _ hh, hroom, hcm, ?_, ?_⟩⟩, (Fr.setRow w g _).mono fun k _ hk => by simp [Value.ownBlock, hk]⟩
        · have hn' : ¬ (cap < n + m) := by omega
          simp [Builtin.append_, run_underlying hu, sizeOf, typeInfo, hj, h2, Builtin.lenOf, hroom, hf, ha, hst]
        · subst hrow
          simp only [List.size_toArray, List.length_append, List.length_take, List.length_drop, Array.length_toList]
          omega
        · have e1 : cur.toList.take (off + n * i.size) = cur.toList.take off ++ cs := by
            rw [← htake, List.take_add]
          have hlo : (cur.toList.take off).length = off := by
            rw [List.length_take, Array.length_toList]; omega
          subst hrow
          show ((cur.toList.take (off + n * i.size) ++ news ++ _).drop off).take _ = _
          rw [e1, List.append_assoc, List.append_assoc, List.drop_append_of_le_length (by omega), List.drop_of_length_le (by omega), List.nil_append, ← List.append_assoc, ← hlen]
          exact List.take_left
      · have holds : ∀ k u, cs[k]? = some u → w.cell? ((⟨g, off, none⟩ : Addr).add k) = some u := by
          intro k u hk
          have hlt : k < cs.length := (List.getElem?_eq_some_iff.1 hk).1
          have ha : (⟨g, off, none⟩ : Addr).add k = ⟨g, off + k, none⟩ := by unfold Addr.add; split <;> simp_all
          rw [ha, cell_of_row w g (off + k) cur e (0, 0) hh, ← hk, ← htake, List.getElem?_take, if_pos (by rw [← hown.1]; exact hlt), List.getElem?_drop]
          simp
        have hr := run_append_grow (P := P) w t ty e j i.zero hu hj h4 ⟨g, off, none⟩ n cap cs (by rw [h2]; exact hown.1) holds a m c news (by rw [h2]; exact hl) hnews (by omega) (by omega) (growslice_fits (by omega) (by rw [h3]; exact hbytes))
        refine ⟨_, _, hr, ⟨hlen, .inr ⟨w.heap.size, 0, _, _, rfl, hbase, heap_alloc_new w.drew _, grownCap_ge w (n + m) cap e, grownCap_le_maxLen w (n + m) cap e h63, ?_, ?_⟩⟩, (Fr.drew w).trans (Fr.alloc _ _)⟩
        · have hge := grownCap_ge w (n + m) cap e
          simp only [Array.size_append, List.size_toArray, size_zeroCells, hz, hown.1, hl, ← Nat.add_mul, Nat.zero_add]
          apply Nat.le_of_eq
          congr 1
          omega
        · simp only [Array.toList_append, List.append_assoc, List.drop_zero]
          rw [← List.append_assoc, ← hlen]
          exact List.take_left

section
variable {P : Program} {tt : Nat → Option TI} [TT P tt] {ro : Option Nat} {N : Nat} {l rest : List Oper} {Q : Exit → Act → World → Prop} {E : List (Nat × Value)} {ds : List Deferred} {w w' : World}
  {d : Nat} {op : Op} {ty : TypeId} {pos : String} {aft : Array Edge} {g : Option (Nat × Bool)} {v : Value}
theorem ow_appendO {t e base n m sz s1 s2 : Nat} {z1 : Value} {f1 : List (Nat × Nat)} {i : TI} {x y : Operand} {vx : Value} {cs news : List Value} (hg : wants l E g = some true) (hd : Nat.blt d N = true)
    (hop : op = .call ⟨.builtin .append, ⟨[x, y]⟩, ⟨[t, t]⟩⟩) (ht : tt t = some ⟨.slice e, s1, s2, z1, f1⟩) (he : tt e = some i) (hi : (Nat.beq i.zero.cells.size sz && Nat.beq i.size sz && Nat.ble i.bytes 2097152 && Nat.blt 0 sz) = true)
    (hx : ev E x = some v) (hy : ev E y = some vx) (hown : Oat w base e sz v n cs) (hsl : SL w sz vx m news) (h1 : ∀ u ∈ news, u.oneCell' = true)
    (hn : n + m ≤ 67108864) (hbase : base ≤ w.heap.size)
    (h : ∀ v' w', Oat w' base e sz v' (n + m) (cs ++ news) → Fr (fun k => v.ownBlock = some k) w w' → OW P ro N l rest Q ((d, v') :: E) ds w') :
    OW P ro N l (⟨some d, op, ty, pos, aft, g⟩ :: rest) Q E ds w := by
  simp only [Bool.and_eq_true] at hi
  obtain ⟨⟨⟨hz, hi⟩, hb⟩, hsz⟩ := hi
  have hz := Nat.eq_of_beq_eq_true hz
  have hi := Nat.eq_of_beq_eq_true hi
  have hb := Nat.le_of_ble_eq_true hb
  have hsz : 0 < sz := Nat.le_of_ble_eq_true hsz
  subst hi
  have hbytes : (n + m) * i.bytes ≤ 140737488355328 := Nat.le_trans (Nat.mul_le_mul hn hb) (by decide)
  obtain ⟨v', w', hrun, ho, hf⟩ := run_appendO (P := P) (ty := ty) ht he hz hsz hown hsl h1 (by unfold maxLen; omega) hbytes hbase
  refine ow_ex hg ?_ hd (h v' w' ho hf)
  intro ρ o hρ hop' hty
  subst hop
  subst hty
  simp only [execOp, hop', resolve, invoke, builtin, Sem.run_bind, Sem.run_pure, Result.andThen]
  have e1 : Array.map ρ #[x, y] = #[v, vx] := by simp [hρ _ _ hx, hρ _ _ hy]
  simp only [e1, hrun]
end

/-- A variable is written whole. -/
theorem eu_storeW {P : Program} {tt : Nat → Option TI} [TT P tt] {E : List (Nat × Value)} {ty : TypeId} {w : World} {t b t0 : Nat} {x y : Operand} {i : TI} {v : Value} {cs vs : List Value} (ht : tt t = some i) (hx : ev E x = some (.pointer (some ⟨b, 0, none⟩))) (hy : ev E y = some v)
    (hvs : v.cells.toList = vs) (hs : Nat.beq vs.length i.size = true) (h1 : ∀ u ∈ vs, u.oneCell' = true) (hb : Blk w b t0 cs) (hfit : vs.length = cs.length) :
    Eu P E (.store t x y) ty w (w.setRow b vs.toArray) := by
  have := eu_storeB (P := P) (ty := ty) ht hx hy hvs hs h1 hb (Nat.ble_eq_true_of_le (by omega))
  have e : spl cs 0 vs = vs := by simp [spl, hfit]
  rwa [e] at this
/-- A variable is read whole. -/
theorem ex_loadW {P : Program} {tt : Nat → Option TI} [TT P tt] {E : List (Nat × Value)} {ty : TypeId} {w : World} {t b t0 : Nat} {x : Operand} {i : TI} {cs : List Value} (ht : tt t = some i) (hagg : aggT i.desc = true) (hx : ev E x = some (.pointer (some ⟨b, 0, none⟩)))
    (hn : Nat.beq cs.length i.size = true) (hb : Blk w b t0 cs) : Ex P E (.load t x) ty w (.agg cs.toArray) w :=
  ex_loadN ht hagg hx (Nat.eq_of_beq_eq_true hn) (fun j _ => by rw [Nat.zero_add]; exact hb.cell j)

section
variable {P : Program} {tt : Nat → Option TI} [TT P tt] {ro : Option Nat} {N k : Nat} {l rest : List Oper} {Q : Exit → Act → World → Prop} {E : List (Nat × Value)} {ds : List Deferred} {w w' : World} {fl : Oper → Bool} {S : World → Prop}
  {d : Nat} {op : Op} {ty : TypeId} {pos : String} {aft : Array Edge} {g : Option (Nat × Bool)} {v : Value}
theorem ow_storeW {t b t0 : Nat} {x y : Operand} {i : TI} {cs vs : List Value} (hg : wants l E g = some true) (hop : op = .store t x y) (ht : tt t = some i) (hx : ev E x = some (.pointer (some ⟨b, 0, none⟩))) (hy : ev E y = some v)
    (hvs : v.cells.toList = vs) (hs : Nat.beq vs.length i.size = true) (h1 : ∀ u ∈ vs, u.oneCell' = true) (hb : Blk w b t0 cs) (hfit : vs.length = cs.length)
    (h : ∀ w', Blk w' b t0 vs → Fr (· = b) w w' → w'.heap.size = w.heap.size → OW P ro N l rest Q E ds w') : OW P ro N l (⟨none, op, ty, pos, aft, g⟩ :: rest) Q E ds w := by
  subst hop
  exact ow_eu hg (eu_storeW ht hx hy hvs hs h1 hb hfit) (h _ hb.setRow (Fr.setRow _ _ _) (by simp [World.setRow]))
theorem dw_storeW {t b t0 : Nat} {x y : Operand} {i : TI} {cs vs : List Value} (hg : wants l E g = some true) (hf : fl ⟨none, op, ty, pos, aft, g⟩ = false) (hop : op = .store t x y) (ht : tt t = some i) (hx : ev E x = some (.pointer (some ⟨b, 0, none⟩))) (hy : ev E y = some v)
    (hvs : v.cells.toList = vs) (hs : Nat.beq vs.length i.size = true) (h1 : ∀ u ∈ vs, u.oneCell' = true) (hb : Blk w b t0 cs) (hfit : vs.length = cs.length)
    (h : ∀ w', Blk w' b t0 vs → Fr (· = b) w w' → w'.heap.size = w.heap.size → S w' ∧ DW P fl ro N S l (k + 1) rest Q E ds w') : DW P fl ro N S l k (⟨none, op, ty, pos, aft, g⟩ :: rest) Q E ds w := by
  subst hop
  have := h _ (hb.setRow (ds := vs)) (Fr.setRow _ _ _) (by simp [World.setRow])
  exact dw_eu hg hf (eu_storeW ht hx hy hvs hs h1 hb hfit) this.1 this.2
theorem dw_new {t : Nat} {i : TI} (hg : wants l E g = some true) (hf : fl ⟨some d, op, ty, pos, aft, g⟩ = false) (hop : op = .alloc t) (ht : tt t = some i) (hd : Nat.blt d N = true)
    (h : ∀ w', Blk w' w.heap.size t i.zero.cells.toList → Ext w w' → w'.heap.size = w.heap.size + 1 → S w' ∧ DW P fl ro N S l (k + 1) rest Q ((d, .pointer (some ⟨w.heap.size, 0, none⟩)) :: E) ds w') :
    DW P fl ro N S l k (⟨some d, op, ty, pos, aft, g⟩ :: rest) Q E ds w := by
  subst hop
  have := h (w.alloc (.cells i.zero.cells t)) (by have := Blk.new w t i.zero.cells.toList; simpa using this) (Fr.alloc _ _) (by simp)
  exact dw_ex hg hf (ex_alloc ht) this.1 hd this.2
end
end Go.Eng
