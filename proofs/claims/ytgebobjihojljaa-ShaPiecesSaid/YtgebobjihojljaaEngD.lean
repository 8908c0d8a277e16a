/- The engine, part four: operations that yield their value under a condition, and those that read or make memory. Conditions: as part two. -/
import Derived.Test.YtgebobjihojljaaEngC
namespace Go.Eng
open Go

def I64 (n : Int) : Prop := -9223372036854775808 ≤ n ∧ n ≤ 9223372036854775807
theorem I64.wrap {n : Int} (h : I64 n) : IntKind.i64.wrap n = n := by
  unfold I64 at h
  have : IntKind.i64.wrap n = (if n % 18446744073709551616 ≥ 9223372036854775808 then n % 18446744073709551616 - 18446744073709551616 else n % 18446744073709551616) := by
    simp [IntKind.wrap, IntKind.signed, IntKind.bits]
  rw [this]
  split <;> omega

/-- An operation's value under a condition, in whatever world. -/
def pevc (tt : Nat → Option TI) (E : List (Nat × Value)) : Op → Option (Prop × Value)
  | .binOp .add _ x y _ => match ev E x, ev E y with
    | some (.int .i64 a), some (.int .i64 b) => some (I64 (a + b), .int .i64 (a + b))
    | _, _ => none
  | .binOp .sub _ x y _ => match ev E x, ev E y with
    | some (.int .i64 a), some (.int .i64 b) => some (I64 (a - b), .int .i64 (a - b))
    | _, _ => none
  | .binOp .mul _ x y _ => match ev E x, ev E y with
    | some (.int .i64 a), some (.int .i64 b) => some (I64 (a * b), .int .i64 (a * b))
    | _, _ => none
  | .binOp .quo _ x y _ => match ev E x, ev E y with
    | some (.int k a), some (.int k' b) => match ikb k k' with
      | true => some (b ≠ 0, .int k (k.wrap (a.tdiv b)))
      | false => none
    | _, _ => none
  | .binOp .rem _ x y _ => match ev E x, ev E y with
    | some (.int k a), some (.int k' b) => match ikb k k' with
      | true => some (b ≠ 0, .int k (a.tmod b))
      | false => none
    | _, _ => none
  | .binOp .shl _ x y _ => match ev E x, ev E y with
    | some (.int k a), some (.int _ b) => some (0 ≤ b, .int k (k.wrap (a * 2 ^ min b.toNat k.bits)))
    | _, _ => none
  | .binOp .shr _ x y _ => match ev E x, ev E y with
    | some (.int k a), some (.int _ b) => some (0 ≤ b, .int k (a.fdiv (2 ^ min b.toNat k.bits)))
    | _, _ => none
  | .indexAddr t x i => match tt t, ev E x, ev E i with
    | some ⟨.slice e, _, _, _, _⟩, some (.slice (some ⟨b, o, none⟩) n _), some (.int _ i) => match tt e with
      | some ⟨_, s, _, _, _⟩ => some (0 ≤ i ∧ i < n, .pointer (some ⟨b, o + mulz i.toNat s, none⟩))
      | none => none
    | some ⟨.array n e, _, _, _, _⟩, some (.pointer (some ⟨b, o, none⟩)), some (.int _ i) => match tt e with
      | some ⟨_, s, _, _, _⟩ => some (0 ≤ i ∧ i < n, .pointer (some ⟨b, o + mulz i.toNat s, none⟩))
      | none => none
    | _, _, _ => none
  | .index t x i => match tt t, ev E x, ev E i with
    | some ⟨.string, _, _, _, _⟩, some (.string s), some (.int _ i) => some (0 ≤ i ∧ i < s.size, .int .u8 ((s.data.toList.getD i.toNat 0).toNat : Int))
    | some ⟨.array n e, _, _, _, _⟩, some (.agg cs), some (.int _ i) => match tt e with
      | some ⟨ed, 1, _, _, _⟩ => match aggT ed with
        | false => some ((0 ≤ i ∧ i < n) ∧ n ≤ cs.size, cs.toList.getD i.toNat undef)
        | true => none
      | _ => none
    | _, _, _ => none
  | .slice t x lo hi none => match tt t, ev E x with
    | some ⟨.slice e, _, _, _, _⟩, some (.slice a n c) => match tt e with
      | some ⟨_, s, _, _, _⟩ => match lo, hi with
        | none, none => some (True, .slice (if c = 0 then a else a.map (·.add (0 * s))) (n - 0) (c - 0))
        | some y, none => match ev E y with
          | some (.int _ l) => some (0 ≤ l ∧ l ≤ n, .slice (if c = l.toNat then a else a.map (·.add (l.toNat * s))) (n - l.toNat) (c - l.toNat))
          | _ => none
        | none, some z => match ev E z with
          | some (.int _ h) => some (0 ≤ h ∧ h ≤ c, .slice (if c = 0 then a else a.map (·.add (0 * s))) (h.toNat - 0) (c - 0))
          | _ => none
        | some y, some z => match ev E y, ev E z with
          | some (.int _ l), some (.int _ h) => some ((0 ≤ h ∧ h ≤ c) ∧ (0 ≤ l ∧ l ≤ h), .slice (if c = l.toNat then a else a.map (·.add (l.toNat * s))) (h.toNat - l.toNat) (c - l.toNat))
          | _, _ => none
      | none => none
    | some ⟨.string, _, _, _, _⟩, some (.string b) => match lo, hi with
      | some y, none => match ev E y with
        | some (.int _ l) => some (0 ≤ l ∧ l ≤ b.size, .string (b.extract l.toNat b.size))
        | _ => none
      | none, some z => match ev E z with
        | some (.int _ h) => some (0 ≤ h ∧ h ≤ b.size, .string (b.extract 0 h.toNat))
        | _ => none
      | some y, some z => match ev E y, ev E z with
        | some (.int _ l), some (.int _ h) => some ((0 ≤ h ∧ h ≤ b.size) ∧ (0 ≤ l ∧ l ≤ h), .string (b.extract l.toNat h.toNat))
        | _, _ => none
      | _, _ => none
    | _, _ => none
  | _ => none

theorem bound_ok {P : Program} {w : World} {k : IntKind} {i : Int} {y : Nat} {c : BoundsCode} (h : 0 ≤ i ∧ i ≤ y) : (Instr.sliceBound (.int k i) y c).run P w = .ok i.toNat w := by
  simp [Instr.sliceBound, asIntOf, h]

theorem run_isAgg {P : Program} {tt : Nat → Option TI} [TT P tt] {t : Nat} {i : TI} (h : tt t = some i) (w : World) : (isAgg t).run P w = .ok (aggT i.desc) w := by
  cases hs : isSt i.desc with
  | false =>
    simp only [isAgg, Sem.run_bind, TT.run_und h hs, Result.andThen]
    generalize i.desc = d
    cases d <;> simp [aggT]
  | true =>
    obtain ⟨fs, h1, _⟩ := TT.run_st (P := P) h hs
    simp only [isAgg, Sem.run_bind, h1, Result.andThen]
    generalize i.desc = d at hs
    cases d <;> first | (simp [isSt] at hs; done) | simp [aggT]

theorem pevc_sound {P : Program} {tt : Nat → Option TI} [TT P tt] {E : List (Nat × Value)} {op : Op} {ty : TypeId} {v : Value} {c : Prop} (h : pevc tt E op = some (c, v)) (hc : c) : Pu P E op ty v := by
  intro w ρ o hρ ho _
  unfold pevc at h
  split at h
  · split at h
    · rename_i h1 h2; simp only [Option.some.injEq, Prod.mk.injEq] at h; obtain ⟨rfl, rfl⟩ := h
      simp [execOp, ho, hρ _ _ h1, hρ _ _ h2, eqGuard_int, binOp, Op.intArith, I64.wrap hc]
    · cases h
  · split at h
    · rename_i h1 h2; simp only [Option.some.injEq, Prod.mk.injEq] at h; obtain ⟨rfl, rfl⟩ := h
      simp [execOp, ho, hρ _ _ h1, hρ _ _ h2, eqGuard_int, binOp, Op.intArith, I64.wrap hc]
    · cases h
  · split at h
    · rename_i h1 h2; simp only [Option.some.injEq, Prod.mk.injEq] at h; obtain ⟨rfl, rfl⟩ := h
      simp [execOp, ho, hρ _ _ h1, hρ _ _ h2, eqGuard_int, binOp, Op.intArith, I64.wrap hc]
    · cases h
  · split at h
    · rename_i h1 h2
      split at h
      · rename_i hk
        obtain rfl := ikb_eq hk
        simp only [Option.some.injEq, Prod.mk.injEq] at h; obtain ⟨rfl, rfl⟩ := h
        simp [execOp, ho, hρ _ _ h1, hρ _ _ h2, eqGuard_int, binOp, Op.intDiv, hc]
      · cases h
    · cases h
  · split at h
    · rename_i h1 h2
      split at h
      · rename_i hk
        obtain rfl := ikb_eq hk
        simp only [Option.some.injEq, Prod.mk.injEq] at h; obtain ⟨rfl, rfl⟩ := h
        simp [execOp, ho, hρ _ _ h1, hρ _ _ h2, eqGuard_int, binOp, Op.intDiv, hc]
      · cases h
    · cases h
  · split at h
    · rename_i h1 h2; simp only [Option.some.injEq, Prod.mk.injEq] at h; obtain ⟨rfl, rfl⟩ := h
      have hc' := Int.not_lt.2 hc
      simp [execOp, ho, hρ _ _ h1, hρ _ _ h2, eqGuard_int, binOp, Op.shift, hc']
    · cases h
  · split at h
    · rename_i h1 h2; simp only [Option.some.injEq, Prod.mk.injEq] at h; obtain ⟨rfl, rfl⟩ := h
      have hc' := Int.not_lt.2 hc
      simp [execOp, ho, hρ _ _ h1, hρ _ _ h2, eqGuard_int, binOp, Op.shift, hc']
    · cases h
  · split at h
    · rename_i h1 h2 h3
      split at h
      · rename_i h4
        simp only [Option.some.injEq, Prod.mk.injEq] at h; obtain ⟨rfl, rfl⟩ := h
        simp only [execOp, ho, hρ _ _ h2, hρ _ _ h3, Instr.indexAt, asIntOf, Sem.run_bind, Sem.run_pure, Result.andThen, TT.run_und h1 rfl]
        simp [hc, mulz_eq, Addr.add]
        simp only [TT.run_size h4]
        simp
      · cases h
    · rename_i h1 h2 h3
      split at h
      · rename_i h4
        simp only [Option.some.injEq, Prod.mk.injEq] at h; obtain ⟨rfl, rfl⟩ := h
        simp only [execOp, ho, hρ _ _ h2, hρ _ _ h3, Instr.indexAt, asIntOf, Sem.run_bind, Sem.run_pure, Result.andThen, TT.run_und h1 rfl, Instr.sureAddr]
        simp [hc, mulz_eq, Addr.add]
        simp only [TT.run_size h4]
        simp
      · cases h
    · cases h
  · split at h
    · rename_i bs k i h1 h2 h3
      simp only [Option.some.injEq, Prod.mk.injEq] at h; obtain ⟨rfl, rfl⟩ := h
      have hlt : i.toNat < bs.data.toList.length := by have := hc.2; simp at this ⊢; omega
      have hg : bs[i.toNat]? = some (bs.data.toList.getD i.toNat 0) := by
        have hs : i.toNat < bs.size := by simpa using hlt
        rw [getElem?_pos bs i.toNat hs]
        congr 1
        rw [List.getD_eq_getElem?_getD, List.getElem?_eq_getElem hlt]
        simp [ByteArray.getElem_eq_getElem_data]
      simp only [execOp, ho, hρ _ _ h2, hρ _ _ h3, Instr.index, asIntOf, Sem.run_bind, Sem.run_pure, Result.andThen, TT.run_und h1 rfl, hc.1, if_true, hg]
    · rename_i cs k i h1 h2 h3
      split at h
      · rename_i h4
        split at h
        · rename_i h5
          simp only [Option.some.injEq, Prod.mk.injEq] at h; obtain ⟨rfl, rfl⟩ := h
          obtain ⟨⟨hc1, hc2⟩, hc3⟩ := hc
          have hlt : i.toNat < cs.toList.length := by simp; omega
          have hg : cs[i.toNat]? = some (cs.toList.getD i.toNat undef) := by
            rw [List.getD_eq_getElem?_getD, List.getElem?_eq_getElem hlt]
            simp at hlt
            simp [hlt]
          simp only [execOp, ho, hρ _ _ h2, hρ _ _ h3, Instr.index, asIntOf, Sem.run_bind, Sem.run_pure, Result.andThen, TT.run_und h1 rfl]
          rw [if_pos ⟨hc1, by omega⟩]
          have hm : ∀ n : Nat, n * 1 = n := Nat.mul_one
          simp only [part, Sem.run_bind, run_isAgg h4, TT.run_size h4, Result.andThen, h5, hm, hg, Bool.false_eq_true, if_false, Sem.run_pure]
        · cases h
      · cases h
    · cases h
  · split at h
    · rename_i e sz by' z a n c h1 h2
      split at h
      · rename_i h3
        split at h
        · simp only [Option.some.injEq, Prod.mk.injEq] at h; obtain ⟨rfl, rfl⟩ := h
          simp [execOp, ho, hρ _ _ h2, Instr.sliceAt, Instr.slice, Instr.sliceBounds, TT.run_und h1 rfl, TT.run_size h3]
        · split at h
          · rename_i h4
            simp only [Option.some.injEq, Prod.mk.injEq] at h; obtain ⟨rfl, rfl⟩ := h
            simp [execOp, ho, hρ _ _ h2, hρ _ _ h4, Instr.sliceAt, Instr.slice, Instr.sliceBounds, TT.run_und h1 rfl, TT.run_size h3, bound_ok hc]
          · cases h
        · split at h
          · rename_i h4
            simp only [Option.some.injEq, Prod.mk.injEq] at h; obtain ⟨rfl, rfl⟩ := h
            simp [execOp, ho, hρ _ _ h2, hρ _ _ h4, Instr.sliceAt, Instr.slice, Instr.sliceBounds, TT.run_und h1 rfl, TT.run_size h3, bound_ok hc]
          · cases h
        · split at h
          · rename_i h4 h5
            simp only [Option.some.injEq, Prod.mk.injEq] at h; obtain ⟨rfl, rfl⟩ := h
            simp [execOp, ho, hρ _ _ h2, hρ _ _ h4, hρ _ _ h5, Instr.sliceAt, Instr.slice, Instr.sliceBounds, TT.run_und h1 rfl, TT.run_size h3, bound_ok hc.1, bound_ok (y := _) (show _ ∧ _ ≤ ((Int.toNat _ : Nat) : Int) from ⟨hc.2.1, by rw [Int.toNat_of_nonneg hc.1.1]; exact hc.2.2⟩)]
          · cases h
      · cases h
    · rename_i bs h1 h2
      split at h
      · split at h
        · rename_i h4
          simp only [Option.some.injEq, Prod.mk.injEq] at h; obtain ⟨rfl, rfl⟩ := h
          simp [execOp, ho, hρ _ _ h2, hρ _ _ h4, Instr.sliceAt, Instr.slice, Instr.sliceBounds, TT.run_und h1 rfl, bound_ok hc]
        · cases h
      · split at h
        · rename_i h4
          simp only [Option.some.injEq, Prod.mk.injEq] at h; obtain ⟨rfl, rfl⟩ := h
          simp [execOp, ho, hρ _ _ h2, hρ _ _ h4, Instr.sliceAt, Instr.slice, Instr.sliceBounds, TT.run_und h1 rfl, bound_ok hc]
        · cases h
      · split at h
        · rename_i h4 h5
          simp only [Option.some.injEq, Prod.mk.injEq] at h; obtain ⟨rfl, rfl⟩ := h
          simp [execOp, ho, hρ _ _ h2, hρ _ _ h4, hρ _ _ h5, Instr.sliceAt, Instr.slice, Instr.sliceBounds, TT.run_und h1 rfl, bound_ok hc.1, bound_ok (y := _) (show _ ∧ _ ≤ ((Int.toNat _ : Nat) : Int) from ⟨hc.2.1, by rw [Int.toNat_of_nonneg hc.1.1]; exact hc.2.2⟩)]
        · cases h
      · cases h
    · cases h
  · cases h

/-- An index into a slice or an array: the block, the place of its first cell, how many elements, the index, the cells of one. -/
def ixv (tt : Nat → Option TI) (E : List (Nat × Value)) : Op → Option (Nat × Nat × Nat × Int × Nat)
  | .indexAddr t x i => match tt t, ev E x, ev E i with
    | some ⟨.slice e, _, _, _, _⟩, some (.slice (some ⟨b, o, none⟩) n _), some (.int _ i) => match tt e with
      | some ⟨_, s, _, _, _⟩ => some (b, o, n, i, s)
      | none => none
    | some ⟨.array n e, _, _, _, _⟩, some (.pointer (some ⟨b, o, none⟩)), some (.int _ i) => match tt e with
      | some ⟨_, s, _, _, _⟩ => some (b, o, n, i, s)
      | none => none
    | _, _, _ => none
  | _ => none
theorem ixv_sound {P : Program} {tt : Nat → Option TI} [TT P tt] {E : List (Nat × Value)} {op : Op} {ty : TypeId} {b o n s k : Nat} {i : Int} (h : ixv tt E op = some (b, o, n, i, s)) (hi : i = (k : Int)) (hk : k < n) :
    Pu P E op ty (.pointer (some ⟨b, o + mulz k s, none⟩)) := by
  refine pevc_sound (c := 0 ≤ i ∧ i < n) ?_ (by omega)
  have hk' : i.toNat = k := by omega
  rw [← hk']
  unfold ixv at h
  split at h
  · split at h
    · rename_i h1 h2 h3
      split at h
      · rename_i h4
        simp only [Option.some.injEq, Prod.mk.injEq] at h
        obtain ⟨rfl, rfl, rfl, rfl, rfl⟩ := h
        simp only [pevc, h1, h2, h3, h4]
      · cases h
    · rename_i h1 h2 h3
      split at h
      · rename_i h4
        simp only [Option.some.injEq, Prod.mk.injEq] at h
        obtain ⟨rfl, rfl, rfl, rfl, rfl⟩ := h
        simp only [pevc, h1, h2, h3, h4]
      · cases h
    · cases h
  · cases h

section
variable {P : Program} {tt : Nat → Option TI} [TT P tt] {ro : Option Nat} {N : Nat} {l rest : List Oper} {Q : Exit → Act → World → Prop} {E : List (Nat × Value)} {ds : List Deferred} {w w' : World}
  {d : Nat} {op : Op} {ty : TypeId} {pos : String} {aft : Array Edge} {g : Option (Nat × Bool)} {v : Value}
/-- One operation that yields its value under a condition. -/
theorem o_c {c : Prop} (hg : wants l E g = some true) (hx : pevc tt E op = some (c, v)) (hd : Nat.blt d N = true) (hc : c) (h : OW P ro N l rest Q ((d, v) :: E) ds w) :
    OW P ro N l (⟨some d, op, ty, pos, aft, g⟩ :: rest) Q E ds w := ow_pu hg (pevc_sound hx hc) hd h
/-- An index, told as a natural number. -/
theorem o_ix (k : Nat) {b o n s : Nat} {i : Int} (hg : wants l E g = some true) (hx : ixv tt E op = some (b, o, n, i, s)) (hd : Nat.blt d N = true) (hi : i = (k : Int)) (hk : k < n)
    (h : OW P ro N l rest Q ((d, .pointer (some ⟨b, o + mulz k s, none⟩)) :: E) ds w) : OW P ro N l (⟨some d, op, ty, pos, aft, g⟩ :: rest) Q E ds w := ow_pu hg (ixv_sound hx hi hk) hd h
end
end Go.Eng
