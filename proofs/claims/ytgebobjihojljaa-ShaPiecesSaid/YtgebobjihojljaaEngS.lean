/- The engine, part eighteen: slices cut behind; small rules. Conditions: as part two. -/
import Derived.Test.YtgebobjihojljaaEngR
namespace Go.Eng
open Go Go.RowKit

theorem ent_nil (F : List SP) : Ent F [] := fun _ _ => SatH.nil _
section
variable {P : Program} {tt : Nat → Option TI} [TT P tt] {E : List (Nat × Value)} {op : Op} {ty : TypeId} {v : Value}
/-- A slice cut behind. -/
def pevt (tt : Nat → Option TI) (E : List (Nat × Value)) : Op → Option (Prop × Value)
  | .slice t x none hi none => match tt t, ev E x with
    | some ⟨.slice e, _, _, _, _⟩, some (.slice a n c) => match tt e, hi with
      | some _, some z => match ev E z with
        | some (.int _ h) => some (0 ≤ h ∧ h ≤ c, .slice a h.toNat c)
        | _ => none
      | some _, none => some (True, .slice a n c)
      | none, _ => none
    | _, _ => none
  | _ => none
theorem add0 (a : Option Addr) : (a.map fun x => x.add (0 * 0)) = a := by cases a <;> simp [Addr.add]
theorem pevt_sound {c : Prop} (h : pevt tt E op = some (c, v)) (hc : c) : Pu P E op ty v := by
  unfold pevt at h
  split at h
  · rename_i t x hi
    split at h
    · rename_i e s1 s2 z f a n c' h1 h2
      have key : ∀ k : Nat, (if c' = 0 then a else a.map fun x => x.add (0 * k)) = a := by
        intro k; split
        · rfl
        · cases a <;> simp [Addr.add]
      split at h
      · rename_i i z' he
        split at h
        · rename_i k hh hz
          simp only [Option.some.injEq, Prod.mk.injEq] at h
          obtain ⟨rfl, rfl⟩ := h
          have : pevc tt E (.slice t x none (some z') none) = some (0 ≤ hh ∧ hh ≤ c', .slice a hh.toNat c') := by
            obtain ⟨d, s, b, zz, ff⟩ := i
            simp only [pevc, h1, h2, he, hz, key, Nat.sub_zero]
          exact pevc_sound this hc
        · cases h
      · rename_i i he
        simp only [Option.some.injEq, Prod.mk.injEq] at h
        obtain ⟨rfl, rfl⟩ := h
        have : pevc tt E (.slice t x none none none) = some (True, .slice a n c') := by
          obtain ⟨d, s, b, zz, ff⟩ := i
          simp only [pevc, h1, h2, he, key, Nat.sub_zero]
        exact pevc_sound this hc
      · cases h
    · cases h
  · cases h
variable {ro : Option Nat} {N : Nat} {l rest : List Oper} {Q : Exit → Act → World → Prop} {ds : List Deferred} {b : World} {F F0 G : List SP} {fl : Oper → Bool} {kk : Nat}
  {d : Nat} {pos : String} {aft : Array Edge} {g : Option (Nat × Bool)}
theorem so_t {c : Prop} (hg : wants l E g = some true) (hx : pevt tt E op = some (c, v)) (hd : Nat.blt d N = true) (hc : c) (h : SO P ro N l rest Q ((d, v) :: E) ds b F) :
    SO P ro N l (⟨some d, op, ty, pos, aft, g⟩ :: rest) Q E ds b F := so_pu hg (pevt_sound hx hc) hd h
theorem sd_t {c : Prop} (hg : wants l E g = some true) (hx : pevt tt E op = some (c, v)) (hf : fl ⟨some d, op, ty, pos, aft, g⟩ = true) (hd : Nat.blt d N = true) (hc : c) (h : SD P fl ro N F0 l (kk + 1) rest Q ((d, v) :: E) ds b F) :
    SD P fl ro N F0 l kk (⟨some d, op, ty, pos, aft, g⟩ :: rest) Q E ds b F := sd_pu hg (pevt_sound hx hc) hf hd h
/-- Reading is kept. -/
theorem up {p : World → Prop} (h : ∀ w, Sat b F w → p w) (he : Ent G F) : ∀ w, Sat b G w → p w := fun w H => h w (H.ent he)
end
end Go.Eng
