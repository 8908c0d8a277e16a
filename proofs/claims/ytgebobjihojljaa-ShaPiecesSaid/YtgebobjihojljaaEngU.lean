/- The engine, part twenty: appending, boxing and storing in drawn regions; rows opened. Conditions: as part two. -/
import Derived.Test.YtgebobjihojljaaEngT
namespace Go.Eng
open Go Go.RowKit

section
variable {P : Program} {tt : Nat → Option TI} [TT P tt] {ro : Option Nat} {N : Nat} {l rest : List Oper} {Q : Exit → Act → World → Prop} {E : List (Nat × Value)} {ds : List Deferred} {b : World} {F F0 G : List SP} {fl : Oper → Bool} {kk : Nat}
  {d : Nat} {op : Op} {ty : TypeId} {pos : String} {aft : Array Edge} {g : Option (Nat × Bool)} {v : Value}
theorem ex_append {t e n m sz s1 s2 : Nat} {z1 : Value} {f1 : List (Nat × Nat)} {i : TI} {x y : Operand} {vx : Value} {cs news : List Value} (k : Nat)
    (ht : tt t = some ⟨.slice e, s1, s2, z1, f1⟩) (he : tt e = some i) (hi : (Nat.beq i.zero.cells.size sz && Nat.beq i.size sz && Nat.ble i.bytes 2097152 && Nat.blt 0 sz) = true)
    (hx : ev E x = some v) (hy : ev E y = some vx) (hF : nth F k = some (row e sz v n cs)) (hsl : ∀ w, Sat b F w → SL w sz vx m news) (h1 : ∀ u ∈ news, u.oneCell' = true) (hn : n + m ≤ 67108864) {Gf : Value → List SP} (hG : ∀ v', setF F k (row e sz v' (n + m) (cs ++ news)) = some (Gf v')) :
    ∀ w, Sat b F w → ∃ v' w', Ex P E (.call ⟨.builtin .append, ⟨[x, y]⟩, ⟨[t, t]⟩⟩) ty w v' w' ∧ Sat b (Gf v') w' := by
  have hi' := hi
  simp only [Bool.and_eq_true] at hi'
  obtain ⟨⟨⟨h1', h2'⟩, h3'⟩, h4'⟩ := hi'
  have e1 := Nat.eq_of_beq_eq_true h1'; have e2 := Nat.eq_of_beq_eq_true h2'; have e3 := Nat.le_of_ble_eq_true h3'; have e4 : 0 < sz := Nat.le_of_ble_eq_true h4'
  subst e2
  intro w H
  have hbytes : (n + m) * i.bytes ≤ 140737488355328 := Nat.le_trans (Nat.mul_le_mul hn e3) (by decide)
  obtain ⟨v', w', hrun, ho, hf, hnb⟩ := run_appendS (P := P) (ty := ty) ht he e1 e4 (H.oat hF) (hsl w H) h1 (by unfold maxLen; omega) hbytes (Nat.zero_le _)
  refine ⟨v', w', ?_, ?_⟩
  · intro ρ o hρ hop' hty
    subst hty
    simp only [execOp, hop', resolve, invoke, builtin, Sem.run_bind, Sem.run_pure, Result.andThen]
    have e1 : Array.map ρ #[x, y] = #[v, vx] := by simp [hρ _ _ hx, hρ _ _ hy]
    simp only [e1, hrun]
  · obtain ⟨h3, l3, hA, hn3⟩ := oat_row ho
    refine H.upd k hF hf (fun h4 l4 hA4 => ?_) (hG v')
    have key : ∀ q, v.ownBlock = some q → h4 q ≠ none := by
      intro q hq
      rcases hA4.2 with ⟨rfl, _⟩ | ⟨g5, off5, cap5, cur5, rfl, hh5, _⟩
      · cases hq
      · simp only [Value.ownBlock, Option.some.injEq] at hq
        subst hq; rw [hh5]; simp
    exact ⟨fun q _ hq => key q hq, h3, l3, hA, fun q hq => (hnb q (hn3 q hq).2).imp (key q) id⟩
theorem sd_append {t e n m sz s1 s2 : Nat} {z1 : Value} {f1 : List (Nat × Nat)} {i : TI} {x y : Operand} {vx : Value} {cs news : List Value} (k : Nat) (hg : wants l E g = some true) (hf : fl ⟨some d, op, ty, pos, aft, g⟩ = false) (hd : Nat.blt d N = true)
    (hop : op = .call ⟨.builtin .append, ⟨[x, y]⟩, ⟨[t, t]⟩⟩) (ht : tt t = some ⟨.slice e, s1, s2, z1, f1⟩) (he : tt e = some i) (hi : (Nat.beq i.zero.cells.size sz && Nat.beq i.size sz && Nat.ble i.bytes 2097152 && Nat.blt 0 sz) = true)
    (hx : ev E x = some v) (hy : ev E y = some vx) (hF : nth F k = some (row e sz v n cs)) (hsl : ∀ w, Sat b F w → SL w sz vx m news) (h1 : ∀ u ∈ news, u.oneCell' = true) (hn : n + m ≤ 67108864) {Gf : Value → List SP} (hG : ∀ v', setF F k (row e sz v' (n + m) (cs ++ news)) = some (Gf v'))
    (hE : ∀ v', Ent (Gf v') F0) (h : ∀ v', SD P fl ro N F0 l (kk + 1) rest Q ((d, v') :: E) ds b (Gf v')) : SD P fl ro N F0 l kk (⟨some d, op, ty, pos, aft, g⟩ :: rest) Q E ds b F := by
  subst hop
  constructor
  intro w H
  obtain ⟨v', w', h2, h3⟩ := ex_append (P := P) (ty := ty) k ht he hi hx hy hF hsl h1 hn hG w H
  exact dw_ex hg hf h2 (h3.ent (hE v')) hd ((h v').1 w' h3)
/-- An effect that yields a value. -/
theorem sd_ef {p : Value → List SP → Prop} (hg : wants l E g = some true) (hf : fl ⟨some d, op, ty, pos, aft, g⟩ = false) (hx : ∀ w, Sat b F w → ∃ v w' G, Ex P E op ty w v w' ∧ Sat b G w' ∧ p v G) (hd : Nat.blt d N = true)
    (h : ∀ v G, p v G → Ent G F0 ∧ SD P fl ro N F0 l (kk + 1) rest Q ((d, v) :: E) ds b G) : SD P fl ro N F0 l kk (⟨some d, op, ty, pos, aft, g⟩ :: rest) Q E ds b F := by
  constructor
  intro w H
  obtain ⟨v, w', G, h1, h2, h3⟩ := hx w H
  exact dw_ex hg hf h1 (h2.ent (h v G h3).1) hd ((h v G h3).2.1 w' h2)
theorem so_ef {p : Value → List SP → Prop} (hg : wants l E g = some true) (hx : ∀ w, Sat b F w → ∃ v w' G, Ex P E op ty w v w' ∧ Sat b G w' ∧ p v G) (hd : Nat.blt d N = true)
    (h : ∀ v G, p v G → SO P ro N l rest Q ((d, v) :: E) ds b G) : SO P ro N l (⟨some d, op, ty, pos, aft, g⟩ :: rest) Q E ds b F := by
  constructor
  intro w H
  obtain ⟨v, w', G, h1, h2, h3⟩ := hx w H
  exact ow_ex hg h1 hd ((h v G h3).1 w' h2)
theorem sd_box {t : Nat} {x : Operand} {cs : List Value} (hg : wants l E g = some true) (hf : fl ⟨some d, op, ty, pos, aft, g⟩ = false) (hop : op = .box t x) (hx : ev E x = some v) (hz : zlist v = some cs) (hd : Nat.blt d N = true) (hE : Ent F F0)
    (h : ∀ g', SD P fl ro N F0 l (kk + 1) rest Q ((d, .pointer (some ⟨g', 0, none⟩)) :: E) ds b (pt g' t cs :: F)) : SD P fl ro N F0 l kk (⟨some d, op, ty, pos, aft, g⟩ :: rest) Q E ds b F := by
  subst hop
  constructor
  intro w H
  have B := Blk.new w t v.cells.toList
  have hb := ex_box (P := P) (E := E) (ty := ty) (w := w) (t := t) hx
  have e1 : v.cells.toList.toArray = v.cells := by simp
  rw [e1] at B
  rw [zlist_eq hz] at B
  have x : Ext w (w.alloc (.cells v.cells t)) := Fr.alloc _ _
  exact dw_ex hg hf hb ((H.ext x).ent hE) hd ((h w.heap.size).1 _ (H.alloc x B (Nat.le_refl _)))
end

/-- A row whose slice is not nil, or is. -/
theorem ent_row_nil {F : List SP} (e sz : Nat) (h0 : 0 = 0 * sz) : Ent F (row e sz (.slice none 0 0) 0 [] :: F) := by
  rintro m ⟨H, a, b, c⟩
  refine ⟨fun j => match j with | 0 => fun _ => none | j + 1 => H j, fun i => ?_, fun i j hij => ?_, fun i A hA => ?_⟩
  · cases i with
    | zero => exact fun _ _ e => by cases e
    | succ i => exact a i
  · cases i with
    | zero => exact fun _ => .inl rfl
    | succ i => cases j with
      | zero => exact fun _ => .inr rfl
      | succ j => exact b i j (by omega)
  · cases i with
    | zero => simp only [nth, Option.some.injEq] at hA; subst hA; exact ⟨by simp, .inl ⟨rfl, rfl⟩⟩
    | succ i => exact c i A hA
end Go.Eng
