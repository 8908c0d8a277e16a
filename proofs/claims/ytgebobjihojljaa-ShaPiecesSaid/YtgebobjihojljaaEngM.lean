/- The engine, part twelve: what is nil; results of which some lie in cells. Conditions: as part two. -/
import Derived.Test.YtgebobjihojljaaEngL
namespace Go.Eng
open Go Go.RowKit

/-- Is it nil? -/
def nilv (tt : Nat → Option TI) (t : Nat) : Value → Value → Option Bool
  | .pointer p, .pointer none => match tt t with
    | some ⟨.pointer _, _, _, _, _⟩ => some p.isNone
    | _ => none
  | .slice a _ _, .slice none _ _ => match tt t with
    | some ⟨.slice _, _, _, _, _⟩ => some a.isNone
    | _ => none
  | .map m, .map none => match tt t with
    | some ⟨.map _ _, _, _, _, _⟩ => some m.isNone
    | _ => none
  | _, _ => none
def pevn (tt : Nat → Option TI) (E : List (Nat × Value)) : Op → Option Value
  | .binOp .eql t x y _ => match ev E x, ev E y with
    | some u, some v => match nilv tt t u v with
      | some b => some (.bool b)
      | none => none
    | _, _ => none
  | .binOp .neq t x y _ => match ev E x, ev E y with
    | some u, some v => match nilv tt t u v with
      | some b => some (.bool (!b))
      | none => none
    | _, _ => none
  | _ => none
theorem nilv_run {P : Program} {tt : Nat → Option TI} [TT P tt] {t : Nat} {u v : Value} {b : Bool} (h : nilv tt t u v = some b) (w : World) : (Op.equal t u v).run P w = .ok b w ∧ ∀ op x y, (eqGuard op t x y u v).run P w = .ok () w := by
  unfold nilv at h
  split at h
  · rename_i p
    split at h
    · rename_i ht
      cases h
      have hu := TT.und (P := P) t _ ht rfl
      refine ⟨?_, fun op x y => by unfold eqGuard; cases op <;> simp⟩
      have he : ∀ d, (Op.equalIn (d + 1) t (.pointer p) (.pointer none)).run P w = .ok p.isNone w := fun d => by
        cases p <;> simp only [Op.equalIn, Sem.run_bind, run_underlying hu, Result.andThen, Sem.run_pure, Option.isNone] <;> rfl
      exact he 9999
    · cases h
  · rename_i a n1 c1 n2 c2
    split at h
    · rename_i ht
      cases h
      have hu := TT.und (P := P) t _ ht rfl
      refine ⟨?_, fun op x y => by unfold eqGuard; cases op <;> simp⟩
      have he : ∀ d, (Op.equalIn (d + 1) t (.slice a n1 c1) (.slice none n2 c2)).run P w = .ok a.isNone w := fun d => by
        cases a <;> simp only [Op.equalIn, Sem.run_bind, run_underlying hu, Result.andThen, Sem.run_pure, Option.isNone] <;> rfl
      exact he 9999
    · cases h
  · rename_i m
    split at h
    · rename_i ht
      cases h
      have hu := TT.und (P := P) t _ ht rfl
      refine ⟨?_, fun op x y => by unfold eqGuard; cases op <;> simp⟩
      have he : ∀ d, (Op.equalIn (d + 1) t (.map m) (.map none)).run P w = .ok m.isNone w := fun d => by
        cases m <;> simp only [Op.equalIn, Sem.run_bind, run_underlying hu, Result.andThen, Sem.run_pure, Option.isNone] <;> rfl
      exact he 9999
    · cases h
  · cases h
theorem pevn_sound {P : Program} {tt : Nat → Option TI} [TT P tt] {E : List (Nat × Value)} {op : Op} {ty : TypeId} {v : Value} (h : pevn tt E op = some v) : Pu P E op ty v := by
  intro w ρ o hρ ho _
  unfold pevn at h
  split at h
  · split at h
    · rename_i h1 h2
      split at h
      · rename_i h3
        cases h
        obtain ⟨k1, k2⟩ := nilv_run (P := P) h3 w
        simp only [execOp, ho, hρ _ _ h1, hρ _ _ h2, Sem.run_bind, k2, Result.andThen]
        unfold nilv at h3
        split at h3 <;> first | (simp [binOp, k1]; done) | (cases h3; done)
      · cases h
    · cases h
  · split at h
    · rename_i h1 h2
      split at h
      · rename_i h3
        cases h
        obtain ⟨k1, k2⟩ := nilv_run (P := P) h3 w
        simp only [execOp, ho, hρ _ _ h1, hρ _ _ h2, Sem.run_bind, k2, Result.andThen]
        unfold nilv at h3
        split at h3 <;> first | (simp [binOp, k1]; done) | (cases h3; done)
      · cases h
    · cases h
  · cases h

section
variable {P : Program} {tt : Nat → Option TI} [TT P tt] {ro : Option Nat} {N k : Nat} {l rest : List Oper} {Q : Exit → Act → World → Prop} {E : List (Nat × Value)} {ds : List Deferred} {w w' : World} {fl : Oper → Bool} {S : World → Prop}
  {d : Nat} {op : Op} {ty : TypeId} {pos : String} {aft : Array Edge} {g : Option (Nat × Bool)} {v : Value} {fn : Func} {R : Ending → World → Prop}
theorem o_n (hg : wants l E g = some true) (hx : pevn tt E op = some v) (hd : Nat.blt d N = true) (h : OW P ro N l rest Q ((d, v) :: E) ds w) :
    OW P ro N l (⟨some d, op, ty, pos, aft, g⟩ :: rest) Q E ds w := ow_pu hg (pevn_sound hx) hd h
theorem d_n (hg : wants l E g = some true) (hx : pevn tt E op = some v) (hf : fl ⟨some d, op, ty, pos, aft, g⟩ = true) (hd : Nat.blt d N = true)
    (h : DW P fl ro N S l (k + 1) rest Q ((d, v) :: E) ds w) : DW P fl ro N S l k (⟨some d, op, ty, pos, aft, g⟩ :: rest) Q E ds w :=
  dw_rd hg hf (fun W _ => pevn_sound hx W) hd h
/-- Two results: the first lies in cells. -/
theorem pn_retCT {t ct u b t0 : Nat} {i : TI} {cs : List Value} (hr : fn.results = #[.cell t ct, .tmp u]) (hv : look E t = some (.pointer (some ⟨b, 0, none⟩))) (hu : look E u = some v) (ht : tt ct = some i) (hagg : aggT i.desc = true) (hn : Nat.beq cs.length i.size = true)
    (hb : Blk w b t0 cs) (h : R (.returned (.tuple #[.agg cs.toArray, v])) w) : PN N (bodyPost P fn R) .ret E [] w := by
  intro a hk hd
  refine ⟨hd, .tuple #[.agg cs.toArray, v], ?_, h⟩
  have h1 := hk.2 _ _ hv
  have h3 := hk.2 _ _ hu
  have h2 := loadVar_agg (P := P) (w := w) (b := b) (off := 0) ht hagg hn (fun j _ => by rw [Nat.zero_add]; exact hb.cell j)
  simp [results, hr, Array.getD_eq_getD_getElem?, h1, h3, asAddr, h2]
end
end Go.Eng
