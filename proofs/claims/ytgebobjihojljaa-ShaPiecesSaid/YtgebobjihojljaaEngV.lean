/- The engine, part twenty-one: several rules in one. Conditions: as part two. -/
import Derived.Test.YtgebobjihojljaaEngU
namespace Go.Eng
open Go Go.RowKit

/-- What an operation yields without a condition. -/
def pevx (tt : Nat → Option TI) (E : List (Nat × Value)) (op : Op) : Option Value := match pev tt E op with
  | some v => some v
  | none => match pevn tt E op with
    | some v => some v
    | none => pevb tt E op
def step1 (tt : Nat → Option TI) (N : Nat) (l : List Oper) (E : List (Nat × Value)) : Oper → Option (Nat × Value)
  | ⟨some d, op, _, _, _, g⟩ => match Nat.blt d N, wants l E g with
    | true, some true => match pevx tt E op with
      | some v => some (d, v)
      | none => none
    | true, some false => some (d, undef)
    | _, _ => none
  | _ => none
/-- .. under a condition. -/
def pevy (tt : Nat → Option TI) (E : List (Nat × Value)) (op : Op) : Option (Prop × Value) := match pevt tt E op with
  | some v => some v
  | none => match pevc tt E op with
    | some v => some v
    | none => pevs tt E op
def step2 (tt : Nat → Option TI) (N : Nat) (l : List Oper) (E : List (Nat × Value)) : Oper → Option (Nat × Prop × Value)
  | ⟨some d, op, _, _, _, g⟩ => match Nat.blt d N, wants l E g with
    | true, some true => match pevy tt E op with
      | some (c, v) => some (d, c, v)
      | none => none
    | _, _ => none
  | _ => none
def ldv (tt : Nat → Option TI) (N : Nat) (l : List Oper) (E : List (Nat × Value)) : Oper → Option (Nat × Nat × Nat × Option Nat)
  | ⟨some d, .load t x, _, _, _, g⟩ => match Nat.blt d N, wants l E g with
    | true, some true => match tt t, ev E x with
      | some i, some (.pointer (some ⟨b, off, none⟩)) => match aggT i.desc with
        | true => some (d, b, off, some i.size)
        | false => some (d, b, off, none)
      | _, _ => none
    | _, _ => none
  | _ => none
def cellv (cs : List Value) (off : Nat) : Option Nat → Option Value
  | some n => match segO cs off n with
    | some vs => some (.agg ⟨vs⟩)
    | none => none
  | none => nth cs off
def stv (tt : Nat → Option TI) (l : List Oper) (E : List (Nat × Value)) : Oper → Option (Nat × Nat × Nat × Value)
  | ⟨none, .store t x y, _, _, _, g⟩ => match wants l E g with
    | some true => match tt t, ev E x, ev E y with
      | some i, some (.pointer (some ⟨b, off, none⟩)), some v => some (b, off, i.size, v)
      | _, _, _ => none
    | _ => none
  | _ => none
def cellst (cs : List Value) (off n : Nat) (v : Value) : Option (List Value) := match zlist v with
  | some vs => match Nat.beq vs.length n, vs.all (·.oneCell') with
    | true, true => splO cs off vs
    | _, _ => none
  | none => none

section
variable {P : Program} {tt : Nat → Option TI} [TT P tt] {ro : Option Nat} {N : Nat} {l rest : List Oper} {Q : Exit → Act → World → Prop} {E : List (Nat × Value)} {ds : List Deferred} {b : World} {F F0 G : List SP} {fl : Oper → Bool} {kk : Nat}
  {d : Nat} {v : Value} {o : Oper} {c : Prop} {g' off n t0 : Nat} {m : Option Nat} {cs cs' : List Value}
theorem pevx_sound {op : Op} {ty : TypeId} (h : pevx tt E op = some v) : Pu P E op ty v := by
  unfold pevx at h
  split at h
  · rename_i h1; cases h; exact pev_sound h1
  · split at h
    · rename_i h1; cases h; exact pevn_sound h1
    · exact pevb_sound h
theorem pevy_sound {op : Op} {ty : TypeId} (h : pevy tt E op = some (c, v)) (hc : c) : Pu P E op ty v := by
  unfold pevy at h
  split at h
  · rename_i h1; cases h; exact pevt_sound h1 hc
  · split at h
    · rename_i h1; cases h; exact pevc_sound h1 hc
    · exact pevs_sound h hc
theorem step1_inv (h : step1 tt N l E o = some (d, v)) : ∃ op ty pos aft g, o = ⟨some d, op, ty, pos, aft, g⟩ ∧ Nat.blt d N = true ∧ ((wants l E g = some true ∧ pevx tt E op = some v) ∨ (wants l E g = some false ∧ v = undef)) := by
  unfold step1 at h
  split at h
  · split at h
    · rename_i h1 h2
      split at h
      · rename_i h3
        simp only [Option.some.injEq, Prod.mk.injEq] at h
        obtain ⟨rfl, rfl⟩ := h
        exact ⟨_, _, _, _, _, rfl, h1, .inl ⟨h2, h3⟩⟩
      · cases h
    · rename_i h1 h2
      simp only [Option.some.injEq, Prod.mk.injEq] at h
      obtain ⟨rfl, rfl⟩ := h
      exact ⟨_, _, _, _, _, rfl, h1, .inr ⟨h2, rfl⟩⟩
    · cases h
  · cases h
theorem step2_inv (h : step2 tt N l E o = some (d, c, v)) : ∃ op ty pos aft g, o = ⟨some d, op, ty, pos, aft, g⟩ ∧ Nat.blt d N = true ∧ wants l E g = some true ∧ pevy tt E op = some (c, v) := by
  unfold step2 at h
  split at h
  · split at h
    · rename_i h1 h2
      split at h
      · rename_i h3
        simp only [Option.some.injEq, Prod.mk.injEq] at h
        obtain ⟨rfl, rfl, rfl⟩ := h
        exact ⟨_, _, _, _, _, rfl, h1, h2, h3⟩
      · cases h
    · cases h
  · cases h
theorem ldv_inv (h : ldv tt N l E o = some (d, g', off, m)) : ∃ t x ty pos aft g i, o = ⟨some d, .load t x, ty, pos, aft, g⟩ ∧ Nat.blt d N = true ∧ wants l E g = some true ∧ tt t = some i ∧ ev E x = some (.pointer (some ⟨g', off, none⟩)) ∧
    ((aggT i.desc = true ∧ m = some i.size) ∨ (aggT i.desc = false ∧ m = none)) := by
  unfold ldv at h
  split at h
  · split at h
    · rename_i h1 h2
      split at h
      · rename_i h3 h4
        split at h
        · rename_i h5
          simp only [Option.some.injEq, Prod.mk.injEq] at h
          obtain ⟨rfl, rfl, rfl, rfl⟩ := h
          exact ⟨_, _, _, _, _, _, _, rfl, h1, h2, h3, h4, .inl ⟨h5, rfl⟩⟩
        · rename_i h5
          simp only [Option.some.injEq, Prod.mk.injEq] at h
          obtain ⟨rfl, rfl, rfl, rfl⟩ := h
          exact ⟨_, _, _, _, _, _, _, rfl, h1, h2, h3, h4, .inr ⟨h5, rfl⟩⟩
      · cases h
    · cases h
  · cases h
theorem so_1 (h1 : step1 tt N l E o = some (d, v)) (h : SO P ro N l rest Q ((d, v) :: E) ds b F) : SO P ro N l (o :: rest) Q E ds b F := by
  obtain ⟨op, ty, pos, aft, g, rfl, h2, ⟨h3, h4⟩ | ⟨h3, rfl⟩⟩ := step1_inv h1
  · exact so_pu h3 (pevx_sound h4) h2 h
  · exact so_skip h3 h2 h
theorem so_2 (h1 : step2 tt N l E o = some (d, c, v)) (hc : c) (h : SO P ro N l rest Q ((d, v) :: E) ds b F) : SO P ro N l (o :: rest) Q E ds b F := by
  obtain ⟨op, ty, pos, aft, g, rfl, h2, h3, h4⟩ := step2_inv h1
  exact so_pu h3 (pevy_sound h4 hc) h2 h
theorem sd_1 (h1 : step1 tt N l E o = some (d, v)) (hf : fl o = true ∨ wants l E o.guard = some false) (h : SD P fl ro N F0 l (kk + 1) rest Q ((d, v) :: E) ds b F) : SD P fl ro N F0 l kk (o :: rest) Q E ds b F := by
  obtain ⟨op, ty, pos, aft, g, rfl, h2, ⟨h3, h4⟩ | ⟨h3, rfl⟩⟩ := step1_inv h1
  · rcases hf with hf | hf
    · exact sd_pu h3 (pevx_sound h4) hf h2 h
    · rw [h3] at hf; cases hf
  · exact sd_skip h3 h2 h
theorem sd_2 (h1 : step2 tt N l E o = some (d, c, v)) (hf : fl o = true) (hc : c) (h : SD P fl ro N F0 l (kk + 1) rest Q ((d, v) :: E) ds b F) : SD P fl ro N F0 l kk (o :: rest) Q E ds b F := by
  obtain ⟨op, ty, pos, aft, g, rfl, h2, h3, h4⟩ := step2_inv h1
  exact sd_pu h3 (pevy_sound h4 hc) hf h2 h
theorem ld_ex {t : Nat} {x : Operand} {i : TI} {ty : TypeId} (k : Nat) (ht : tt t = some i) (hx : ev E x = some (.pointer (some ⟨g', off, none⟩))) (hm : (aggT i.desc = true ∧ m = some i.size) ∨ (aggT i.desc = false ∧ m = none)) (hF : nth F k = some (pt g' t0 cs)) (hv : cellv cs off m = some v) :
    ∀ w, Sat b F w → Ex P E (.load t x) ty w v w := by
  rcases hm with ⟨h1, rfl⟩ | ⟨h1, rfl⟩
  · simp only [cellv] at hv
    split at hv
    · rename_i vs hs
      simp only [Option.some.injEq] at hv
      subst hv
      exact ex_ldA k ht h1 hx hF hs
    · cases hv
  · exact ex_ld k ht h1 hx hF hv
theorem so_l (k : Nat) (h1 : ldv tt N l E o = some (d, g', off, m)) (hF : nth F k = some (pt g' t0 cs)) (hv : cellv cs off m = some v) (h : SO P ro N l rest Q ((d, v) :: E) ds b F) : SO P ro N l (o :: rest) Q E ds b F := by
  obtain ⟨t, x, ty, pos, aft, g, i, rfl, h2, h3, h4, h5, h6⟩ := ldv_inv h1
  exact so_rd h3 (ld_ex k h4 h5 h6 hF hv) h2 h
theorem sd_l (k : Nat) (h1 : ldv tt N l E o = some (d, g', off, m)) (hF : nth F0 k = some (pt g' t0 cs)) (hv : cellv cs off m = some v) (hf : fl o = true) (h : SD P fl ro N F0 l (kk + 1) rest Q ((d, v) :: E) ds b F) : SD P fl ro N F0 l kk (o :: rest) Q E ds b F := by
  obtain ⟨t, x, ty, pos, aft, g, i, rfl, h2, h3, h4, h5, h6⟩ := ldv_inv h1
  exact sd_rd h3 (ld_ex k h4 h5 h6 hF hv) hf h2 h
theorem stv_inv (h : stv tt l E o = some (g', off, n, v)) : ∃ t x y ty pos aft g i, o = ⟨none, .store t x y, ty, pos, aft, g⟩ ∧ wants l E g = some true ∧ tt t = some i ∧ ev E x = some (.pointer (some ⟨g', off, none⟩)) ∧ ev E y = some v ∧ n = i.size := by
  unfold stv at h
  split at h
  · split at h
    · rename_i h2
      split at h
      · rename_i h3 h4 h5
        simp only [Option.some.injEq, Prod.mk.injEq] at h
        obtain ⟨rfl, rfl, rfl, rfl⟩ := h
        exact ⟨_, _, _, _, _, _, _, _, rfl, h2, h3, h4, h5, rfl⟩
      · cases h
    · cases h
  · cases h
theorem cellst_inv (h : cellst cs off n v = some cs') : ∃ vs, zlist v = some vs ∧ Nat.beq vs.length n = true ∧ vs.all (·.oneCell') = true ∧ splO cs off vs = some cs' := by
  unfold cellst at h
  split at h
  · split at h
    · rename_i h1 _ _ h2 h3; exact ⟨_, h1, h2, h3, h⟩
    · cases h
  · cases h
theorem so_s1 (k : Nat) (h1 : stv tt l E o = some (g', off, n, v)) (hF : nth F k = some (pt g' t0 cs)) (hc : cellst cs off n v = some cs') (hG : setF F k (pt g' t0 cs') = some G) (h : SO P ro N l rest Q E ds b G) : SO P ro N l (o :: rest) Q E ds b F := by
  obtain ⟨t, x, y, ty, pos, aft, g, i, rfl, h3, h4, h5, h6, rfl⟩ := stv_inv h1
  obtain ⟨vs, c1, c2, c3, c4⟩ := cellst_inv hc
  exact so_stA k h3 rfl h4 h5 h6 c1 c2 c3 hF c4 hG h
end
end Go.Eng
