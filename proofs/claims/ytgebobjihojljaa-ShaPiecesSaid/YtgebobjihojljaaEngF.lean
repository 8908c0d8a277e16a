/- The engine, part six: slices, what is built, append. Conditions: as part two. -/
import Derived.Test.YtgebobjihojljaaEngE
namespace Go.Eng
open Go Go.RowKit

/-! ## What is filled in -/
def spl (cells : List Value) (off : Nat) (vs : List Value) : List Value := cells.take off ++ (vs ++ cells.drop (off + vs.length))

theorem spl_length {cells vs : List Value} {off : Nat} (h : off + vs.length ≤ cells.length) : (spl cells off vs).length = cells.length := by
  simp [spl]; omega

theorem fold_spl : ∀ (vs : List Value) (k off : Nat) (A : Array Value), off + k + vs.length ≤ A.size →
    (vs.zipIdx k).foldl (fun cs (p : Value × Nat) => cs.setIfInBounds (off + p.2) p.1) A = (spl A.toList (off + k) vs).toArray := by
  intro vs
  induction vs with
  | nil => intro k off A _; simp [spl]
  | cons v vs ih =>
    intro k off A h
    simp only [List.length_cons] at h
    simp only [List.zipIdx_cons, List.foldl_cons]
    rw [ih (k + 1) off _ (by simp; omega)]
    congr 1
    have hk : off + k < A.toList.length := by simp; omega
    simp only [spl, Array.toList_setIfInBounds]
    rw [show off + (k + 1) = off + k + 1 from by omega]
    rw [List.take_succ_eq_append_getElem (by simpa using hk)]
    simp only [List.take_set, List.getElem_set_self, List.length_cons]
    rw [List.set_eq_of_length_le (by simp; omega)]
    rw [List.drop_set_of_lt (by omega)]
    simp [Nat.add_comm, Nat.add_left_comm]

def fillL (place : Nat → Option (Nat × Nat)) (cells : List Value) : List (Nat × Value) → Option (List Value)
  | [] => some cells
  | (i, v) :: rest => match place i with
    | some (off, size) => match Nat.beq v.cells.size size, Nat.ble (off + size) cells.length with
      | true, true => fillL place (spl cells off v.cells.toList) rest
      | _, _ => none
    | none => none

theorem fill_of {place : Nat → Option (Nat × Nat)} : ∀ {parts : List (Nat × Value)} {cells r : List Value}, fillL place cells parts = some r → Instr.fill place cells.toArray parts = some r.toArray
  | [], cells, r, h => by simp [fillL] at h; simp [Instr.fill, h]
  | (i, v) :: rest, cells, r, h => by
    simp only [fillL] at h
    split at h
    · rename_i off size hp
      split at h
      · rename_i h1 h2
        have h1 := Nat.eq_of_beq_eq_true h1
        have h2 := Nat.le_of_ble_eq_true h2
        have ih := fill_of h
        have hz : v.cells.zipIdx = (v.cells.toList.zipIdx).toArray := by
          apply Array.ext'; rw [Array.toList_zipIdx]
        have hf := fold_spl v.cells.toList 0 off cells.toArray (by simp; omega)
        simp only [Nat.add_zero] at hf
        simp only [Instr.fill, hp]
        rw [if_neg (by simp; exact ⟨h1, by omega⟩)]
        rw [← ih]
        congr 1
        rw [← hf, hz]
        simp only [List.foldl_toArray]
      · cases h
    · cases h

/-! ## Slices -/
/-- v is a slice of n elements of sz cells each, and reads as cs. -/
def SL (w : World) (sz : Nat) (v : Value) (n : Nat) (cs : List Value) : Prop :=
  ∃ A c, v = .slice A n c ∧ cs.length = n * sz ∧ n ≤ c ∧ c ≤ maxLen ∧ (A = none → c = 0) ∧
    (0 < n → ∃ b off, A = some ⟨b, off, none⟩ ∧ b < w.heap.size ∧ ∀ j, j < cs.length → w.cell? ⟨b, off + j, none⟩ = cs[j]?)

/-- The block in which a slice lies. -/
def inBlk (v : Value) (k : Nat) : Prop := ∃ a n c, v = .slice (some a) n c ∧ a.block = k

theorem SL.fr {w w' : World} {sz n : Nat} {v : Value} {cs : List Value} {S : Nat → Prop} (h : SL w sz v n cs) (hf : Fr S w w') (hs : ∀ k, inBlk v k → ¬ S k) : SL w' sz v n cs := by
  obtain ⟨A, c, rfl, hl, hc, hm, hz, hx⟩ := h
  refine ⟨A, c, rfl, hl, hc, hm, hz, fun hn => ?_⟩
  obtain ⟨b, off, rfl, hb, hcell⟩ := hx hn
  refine ⟨b, off, rfl, Nat.lt_of_lt_of_le hb hf.size, fun j hj => ?_⟩
  rw [hf.cell hb (hs b ⟨_, _, _, rfl, rfl⟩)]
  exact hcell j hj
theorem SL.ext {w w' : World} {sz n : Nat} {v : Value} {cs : List Value} (h : SL w sz v n cs) (hf : Ext w w') : SL w' sz v n cs := h.fr hf fun _ _ => id
theorem SL.nil (w : World) (sz : Nat) : SL w sz (.slice none 0 0) 0 [] := ⟨none, 0, rfl, by simp, Nat.le_refl _, by decide, fun _ => rfl, fun h => absurd h (by omega)⟩
theorem SL.blk {w : World} {sz n : Nat} {v : Value} {cs : List Value} (h : SL w sz v n cs) (hn : 0 < n) : ∃ b, inBlk v b ∧ b < w.heap.size := by
  obtain ⟨A, c, rfl, hl, hc, hm, hz, hx⟩ := h
  obtain ⟨b, off, rfl, hb, hcell⟩ := hx hn
  exact ⟨b, ⟨_, _, _, rfl, rfl⟩, hb⟩

/-- What the call itself made and appends to. -/
abbrev Mine (w : World) (base : Nat) (e sz : Nat) (v : Value) (n : Nat) (cs : List Value) : Prop := w.ownsRow base e sz v n cs

theorem Mine.sl {w : World} {base e sz n : Nat} {v : Value} {cs : List Value} (h : Mine w base e sz v n cs) : SL w sz v n cs := by
  rcases h.2 with ⟨rfl, rfl⟩ | ⟨g, cap, cur, rfl, hb, hh, hn, hc, hcur, htake⟩
  · have := h.1
    simp at this
    subst this
    exact SL.nil w sz
  · refine ⟨_, cap, rfl, h.1, hn, hc, by simp, fun _ => ⟨g, 0, rfl, ?_, fun j hj => ?_⟩⟩
    · exact (Array.getElem?_eq_some_iff.1 hh).1
    · rw [cell_of_row w g (0 + j) cur e (0, 0) hh]
      rw [h.1] at hj
      have : cur.toList[j]? = (cur.toList.take (n * sz))[j]? := by rw [List.getElem?_take, if_pos hj]
      simpa [htake] using this

theorem Mine.block {w : World} {base e sz n k : Nat} {v : Value} {cs : List Value} (h : Mine w base e sz v n cs) (hk : v.ownBlock = some k) : base ≤ k ∧ k < w.heap.size := h.lt k hk

theorem Mine.fr {w w' : World} {base e sz n : Nat} {v : Value} {cs : List Value} {S : Nat → Prop} (h : Mine w base e sz v n cs) (hf : Fr S w w') (hs : ∀ k, v.ownBlock = some k → ¬ S k) : Mine w' base e sz v n cs := by
  refine ⟨h.1, ?_⟩
  rcases h.2 with hn | ⟨g, cap, cur, rfl, hb, hh, rest⟩
  · exact .inl hn
  · exact .inr ⟨g, cap, cur, rfl, hb, (hf.keep g (Array.getElem?_eq_some_iff.1 hh).1 (hs g rfl)).trans hh, rest⟩
theorem Mine.ext {w w' : World} {base e sz n : Nat} {v : Value} {cs : List Value} (h : Mine w base e sz v n cs) (hf : Ext w w') : Mine w' base e sz v n cs := Mine.fr h hf fun _ _ => id

section
variable {P : Program} {tt : Nat → Option TI} [TT P tt] {E : List (Nat × Value)} {ty : TypeId} {w : World}

theorem run_append {base t ty e n m : Nat} {i : TI} {s1 s2 : Nat} {z1 : Value} {f1 : List (Nat × Nat)} (ht : tt t = some ⟨.slice e, s1, s2, z1, f1⟩) (he : tt e = some i) (hz : i.zero.cells.size = i.size) (hsz : 0 < i.size)
    {v vx : Value} {cs news : List Value} (hown : Mine w base e i.size v n cs) (hx : SL w i.size vx m news) (h1 : ∀ u ∈ news, u.oneCell' = true)
    (h63 : n + m ≤ maxLen) (hbytes : (n + m) * i.bytes ≤ 140737488355328) (hbase : base ≤ w.heap.size) :
    ∃ v' w', (Builtin.append_ #[t, t] ty #[v, vx]).run P w = .ok v' w' ∧ Mine w' base e i.size v' (n + m) (cs ++ news) ∧ Fr (fun k => v.ownBlock = some k) w w' := by
  obtain ⟨j, hj, h2, h3, h4⟩ := TT.info (P := P) e i he
  obtain ⟨A, c, rfl, hl, hc, hm, hz0, hcell⟩ := hx
  have hu := TT.und (P := P) t _ ht rfl
  cases A with
  | none =>
    have hm0 : m = 0 := by have := hz0 rfl; omega
    subst hm0
    have hn : news = [] := List.eq_nil_of_length_eq_zero (by simpa using hl)
    subst hn
    refine ⟨v, w, ?_, by simpa using hown, Fr.refl _ w⟩
    rcases hown.2 with ⟨rfl, rfl⟩ | ⟨g, cap, cur, rfl, _, _, hnc, _⟩
    · simp [Builtin.append_, run_underlying hu, sizeOf, typeInfo, hj, Builtin.lenOf, Builtin.firstCells]
    · simp [Builtin.append_, run_underlying hu, sizeOf, typeInfo, hj, Builtin.lenOf, Builtin.firstCells, hnc, storeCells]
  | some a =>
    have hnews : ∀ k u, news[k]? = some u → w.cell? (a.add k) = some u := by
      intro k u hk
      have hlt : k < news.length := (List.getElem?_eq_some_iff.1 hk).1
      have hm0 : 0 < m := by
        rcases Nat.eq_zero_or_pos m with h0 | h0
        · subst h0; simp at hl; subst hl; simp at hlt
        · exact h0
      obtain ⟨b, off, hab, hb, hcc⟩ := hcell hm0
      cases hab
      have ha : (⟨b, off, none⟩ : Addr).add k = ⟨b, off + k, none⟩ := by unfold Addr.add; split <;> simp_all
      rw [ha, hcc k hlt, hk]
    obtain ⟨v', w', hrun, ho, hg, _⟩ := run_append_own (P := P) w base t ty e j i.zero i.size i.bytes hu hj h4 h2 h3 hz hsz v n cs hown a m c news hl hnews h1 h63 hbytes hbase
    refine ⟨v', w', hrun, ho, (Fr.grown hg).mono fun _ _ h => h⟩

theorem ex_buildSlice {t len e s1 s2 : Nat} {z1 : Value} {f1 : List (Nat × Nat)} {i : TI} {parts : List (Nat × Operand)} {vs : List (Nat × Value)} {cells : List Value}
    (ht : tt t = some ⟨.slice e, s1, s2, z1, f1⟩) (he : tt e = some i) (hp : (parts.map fun p => ev E p.2) = vs.map fun p => some p.2) (hp1 : parts.map (·.1) = vs.map (·.1))
    (hlen : len * i.size ≤ 16777216)
    (hf : ∀ z, z.length = len * i.size → fillL (fun k => some (k * i.size, i.size)) z vs = some cells) :
    Ex P E (.buildSlice t len ⟨parts⟩) ty w (.slice (some ⟨w.heap.size, 0, none⟩) len len) (w.alloc (.cells cells.toArray e)) := by
  intro ρ o hρ ho _
  have hparts : parts.map (fun p => (p.1, ρ p.2)) = vs := by
    clear hf ho
    induction parts generalizing vs with
    | nil => cases vs with
      | nil => rfl
      | cons => simp at hp
    | cons p parts ih => cases vs with
      | nil => simp at hp
      | cons q vs =>
        simp only [List.map_cons, List.cons.injEq] at hp hp1 ⊢
        exact ⟨by rw [hp1.1, hρ _ _ hp.1], ih hp.2 hp1.2⟩
  have hnot : ¬ (2 ^ 24 < len * i.size) := by omega
  simp only [execOp, ho, Instr.buildSlice, Sem.run_bind, TT.run_und ht rfl, TT.run_size he, Result.andThen, Sem.run_ite]
  rw [if_neg (by simpa using hnot)]
  by_cases h0 : len * i.size = 0
  · rw [if_pos h0]
    have h0' : Array.range (len * i.size) = #[] := by rw [h0]; rfl
    have := fill_of (hf [] (by simp [h0]))
    simp [h0', hparts, this, newRow]
  · rw [if_neg h0]
    have h2 := fill_of (hf ((Array.range (len * i.size)).map (i.zero.cells[· % i.zero.cells.size]!)).toList (by simp))
    simp only [Array.toArray_toList] at h2
    simp [TT.run_zero he, hparts, h2, newRow]
end

section
variable {P : Program} {tt : Nat → Option TI} [TT P tt] {ro : Option Nat} {N : Nat} {l rest : List Oper} {Q : Exit → Act → World → Prop} {E : List (Nat × Value)} {ds : List Deferred} {w w' : World}
  {d : Nat} {op : Op} {ty : TypeId} {pos : String} {aft : Array Edge} {g : Option (Nat × Bool)} {v : Value}

theorem ow_append {t e base n m sz s1 s2 : Nat} {z1 : Value} {f1 : List (Nat × Nat)} {i : TI} {x y : Operand} {vx : Value} {cs news : List Value} (hg : wants l E g = some true) (hd : Nat.blt d N = true)
    (hop : op = .call ⟨.builtin .append, ⟨[x, y]⟩, ⟨[t, t]⟩⟩) (ht : tt t = some ⟨.slice e, s1, s2, z1, f1⟩) (he : tt e = some i) (hi : (Nat.beq i.zero.cells.size sz && Nat.beq i.size sz && Nat.ble i.bytes 2097152 && Nat.blt 0 sz) = true)
    (hx : ev E x = some v) (hy : ev E y = some vx) (hown : Mine w base e sz v n cs) (hsl : SL w sz vx m news) (h1 : ∀ u ∈ news, u.oneCell' = true)
    (hn : n + m ≤ 67108864) (hbase : base ≤ w.heap.size)
    (h : ∀ v' w', Mine w' base e sz v' (n + m) (cs ++ news) → Fr (fun k => v.ownBlock = some k) w w' → OW P ro N l rest Q ((d, v') :: E) ds w') :
    OW P ro N l (⟨some d, op, ty, pos, aft, g⟩ :: rest) Q E ds w := by
  simp only [Bool.and_eq_true] at hi
  obtain ⟨⟨⟨hz, hi⟩, hb⟩, hsz⟩ := hi
  have hz := Nat.eq_of_beq_eq_true hz
  have hi := Nat.eq_of_beq_eq_true hi
  have hb := Nat.le_of_ble_eq_true hb
  have hsz : 0 < sz := Nat.le_of_ble_eq_true hsz
  subst hi
  have hbytes : (n + m) * i.bytes ≤ 140737488355328 := Nat.le_trans (Nat.mul_le_mul hn hb) (by decide)
  obtain ⟨v', w', hrun, ho, hf⟩ := run_append (P := P) (ty := ty) ht he hz hsz hown hsl h1 (by unfold maxLen; omega) hbytes hbase
  refine ow_ex hg ?_ hd (h v' w' ho hf)
  intro ρ o hρ hop' hty
  subst hop
  subst hty
  simp only [execOp, hop', resolve, invoke, builtin, Sem.run_bind, Sem.run_pure, Result.andThen]
  have e1 : Array.map ρ #[x, y] = #[v, vx] := by simp [hρ _ _ hx, hρ _ _ hy]
  simp only [e1, hrun]
end
/-! ## Slices whose elements are one cell -/
def VL {α : Type} (f : α → Value) (w : World) (v : Value) (xs : List α) : Prop := SL w 1 v xs.length (xs.map f)
/-- v reads as the integers xs. -/
abbrev IL (w : World) (v : Value) (xs : List Int) : Prop := VL (Value.int .i64) w v xs

section
variable {α : Type} {f : α → Value} {w w' : World} {v : Value} {xs : List α}
theorem VL.fr {S : Nat → Prop} (h : VL f w v xs) (hf : Fr S w w') (hs : ∀ k, inBlk v k → ¬ S k) : VL f w' v xs := SL.fr h hf hs
theorem VL.ext (h : VL f w v xs) (hf : Ext w w') : VL f w' v xs := SL.ext h hf
theorem VL.nil (f : α → Value) (w : World) : VL f w (.slice none 0 0) [] := SL.nil w 1
theorem VL.op (h : VL f w v xs) : ∃ A c, v = .slice A xs.length c ∧ xs.length ≤ c ∧ c ≤ 9223372036854775807 ∧ (A = none → c = 0) ∧
    ∀ i : Nat, i < xs.length → ∃ b off, A = some ⟨b, off, none⟩ ∧ b < w.heap.size ∧ ∀ (j : Nat) (hj : j < xs.length), w.cell? ⟨b, off + j, none⟩ = some (f xs[j]) := by
  obtain ⟨A, c, rfl, hl, hc, hm, hz, hx⟩ := h
  refine ⟨A, c, rfl, hc, hm, hz, fun i hi => ?_⟩
  obtain ⟨b, off, rfl, hb, hcell⟩ := hx (by omega)
  refine ⟨b, off, rfl, hb, fun j hj => ?_⟩
  rw [hcell j (by simpa using hj)]
  simp [hj]
theorem VL.mk {b off c : Nat} {n : Nat} (hn : n = xs.length) (hc : n ≤ c) (hm : c ≤ maxLen) (hb : b < w.heap.size) (h : ∀ (j : Nat) (hj : j < xs.length), w.cell? ⟨b, off + j, none⟩ = some (f xs[j])) :
    VL f w (.slice (some ⟨b, off, none⟩) n c) xs := by
  subst hn
  refine ⟨_, c, rfl, by simp, hc, hm, by simp, fun _ => ⟨b, off, rfl, hb, fun j hj => ?_⟩⟩
  have hj' : j < xs.length := by simpa using hj
  rw [h j hj']
  simp [hj']
end

end Go.Eng
