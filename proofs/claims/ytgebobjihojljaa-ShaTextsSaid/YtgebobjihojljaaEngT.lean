/- The engine, part nineteen: arrays of numbers are compared; a literal that is converted; what is written into a row. Conditions: as part two. -/
import Derived.Test.YtgebobjihojljaaEngS
import Derived.ChangeKeysEq
namespace Go.Eng
open Go Go.RowKit

/-- An array of numbers. -/
class ArrI (P : Program) (t : Nat) (n : outParam Nat) (k : outParam IntKind) : Prop where
  ex : ∃ e i, P.underlying t = some (.array n e) ∧ P.underlying e = some (.int k) ∧ P.info? e = some i ∧ i.size = 1
theorem run_eqA {P : Program} {t n : Nat} {k : IntKind} [h : ArrI P t n k] {a b : List Int} (ha : a.length = n) (hb : b.length = n) (w : World) :
    (Op.equalIn 10000 t (.agg ⟨a.map (Value.int k)⟩) (.agg ⟨b.map (Value.int k)⟩)).run P w = .ok (decide (a = b)) w := by
  obtain ⟨e, i, h1, h2, h3, h4⟩ := h.ex
  rw [run_equalIn_array w 9999 _ _ h1 h3]
  have hc : P.cellsOf e = 1 := by simp [Program.cellsOf, h3, h4]
  have hp : P.plainKey e = true := by simp [Program.plainKey, h2]
  rw [hc]
  have key : ∀ m j, j + m = n → (Op.eqItems 9999 e 1 ⟨a.map (Value.int k)⟩ ⟨b.map (Value.int k)⟩ (List.range' j m)).run P w = .ok (decide (a.drop j = b.drop j)) w := by
    intro m
    induction m with
    | zero =>
      intro j hj
      have e1 : a.drop j = [] := List.drop_of_length_le (by omega)
      have e2 : b.drop j = [] := List.drop_of_length_le (by omega)
      simp [Op.eqItems, e1, e2]
    | succ m ih =>
      intro j hj
      have hja : j < a.length := by omega
      have hjb : j < b.length := by omega
      have p1 := run_part_plain (P := P) w hp (xs := ⟨a.map (Value.int k)⟩) (off := j) (v := .int k a[j]) (by simp [hja])
      have p2 := run_part_plain (P := P) w hp (xs := ⟨b.map (Value.int k)⟩) (off := j) (v := .int k b[j]) (by simp [hjb])
      simp only [List.range'_succ, Op.eqItems, Nat.mul_one, Sem.run_bind, p1, p2, Result.andThen_ok, run_equalIn_int w 9998 e k k _ _ h2]
      have ea : a.drop j = a[j] :: a.drop (j + 1) := List.drop_eq_getElem_cons hja
      have eb : b.drop j = b[j] :: b.drop (j + 1) := List.drop_eq_getElem_cons hjb
      by_cases heq : a[j] = b[j]
      · have : (a[j] == b[j]) = true := by simpa using heq
        simp only [this, Bool.not_true, Bool.false_eq_true, if_false]
        rw [ih (j + 1) (by omega), ea, eb]
        simp only [List.cons.injEq, heq, true_and]
      · have : (a[j] == b[j]) = false := by simpa using heq
        simp only [this, Bool.not_false, if_true, Sem.run_pure]
        rw [ea, eb, decide_eq_false (fun e => heq (List.cons.inj e).1)]
  have := key n 0 (by omega)
  simpa [List.range_eq_range'] using this

section
variable {P : Program} {tt : Nat → Option TI} [TT P tt] {ro : Option Nat} {N : Nat} {l rest : List Oper} {Q : Exit → Act → World → Prop} {E : List (Nat × Value)} {ds : List Deferred} {b : World} {F F0 G : List SP} {fl : Oper → Bool} {kk : Nat}
  {d : Nat} {op : Op} {ty : TypeId} {pos : String} {aft : Array Edge} {g : Option (Nat × Bool)} {v : Value}
theorem pu_eqI {t t' n : Nat} {k : IntKind} {x y : Operand} {as00 bs : List Int} [EqT P t] [ArrI P t n k] (hx : ev E x = some (.agg ⟨as00.map (Value.int k)⟩)) (hy : ev E y = some (.agg ⟨bs.map (Value.int k)⟩)) (ha : as00.length = n) (hb : bs.length = n) :
    Pu P E (.binOp .eql t x y t') ty (.bool (decide (as00 = bs))) := pu_eqA hx hy (run_eqA ha hb)
theorem pu_neI {t t' n : Nat} {k : IntKind} {x y : Operand} {as00 bs : List Int} [EqT P t] [ArrI P t n k] (hx : ev E x = some (.agg ⟨as00.map (Value.int k)⟩)) (hy : ev E y = some (.agg ⟨bs.map (Value.int k)⟩)) (ha : as00.length = n) (hb : bs.length = n) :
    Pu P E (.binOp .neq t x y t') ty (.bool (!decide (as00 = bs))) := pu_neA hx hy (run_eqA ha hb)

theorem ex_mark {t e g' t0 off n c s1 s2 s3 s4 : Nat} {z1 z2 : Value} {f1 f2 : List (Nat × Nat)} {x : Operand} {cs : List Value} (k : Nat) (ht : tt t = some ⟨.slice e, s1, s2, z1, f1⟩) (he : tt e = some ⟨.int .u8, s3, s4, z2, f2⟩) (hx : ev E x = some (.slice (some ⟨g', off, none⟩) n c)) (hF : nth F k = some (pt g' t0 cs))
    (hG : setF F k (ptz g' t0 (cs.length, cs.length + 1) cs) = some G) : ∀ w, Sat b F w → ∃ w', Ex P E (.convert t t x) ty w (.slice (some ⟨g', off, none⟩) n c) w' ∧ Sat b G w' := fun w H => by
  have B := H.blk hF
  have hsh : w.shape? g' = some (t0, cs.length) := by simp [World.shape?, show w.heap[g']? = _ from B]
  refine ⟨w.freeze ⟨g', cs.length, none⟩ 1, ?_, ?_⟩
  · intro ρ o hρ ho _
    simp [execOp, ho, hρ _ _ hx, convert, TT.run_und ht rfl, TT.run_und he rfl, markStringish, hsh, Result.andThen]
  · refine H.upd k hF (freeze_fr w ⟨g', cs.length, none⟩ 1) (fun h1 _ hA => ⟨fun i _ hi => by dsimp only at hi; subst hi; rw [show h1 _ = _ from hA]; simp, _, one_le (h := ph _) (o := .cells cs.toArray t0 (cs.length, cs.length + 1)) ?_, one_at g' _, fun i hi => .inl (by rw [one_ne hi, show h1 g' = _ from hA]; simp)⟩) hG
    show (w.freeze ⟨g', cs.length, none⟩ 1).heap[g']? = _
    have hB : w.heap[g']? = some (.cells cs.toArray t0 (0, 0)) := B
    simp [World.freeze, Array.getElem?_modify, hB]
theorem so_mark {t e g' t0 off n c s1 s2 s3 s4 : Nat} {z1 z2 : Value} {f1 f2 : List (Nat × Nat)} {x : Operand} {cs : List Value} (k : Nat) (hg : wants l E g = some true) (hop : op = .convert t t x) (ht : tt t = some ⟨.slice e, s1, s2, z1, f1⟩) (he : tt e = some ⟨.int .u8, s3, s4, z2, f2⟩) (hx : ev E x = some (.slice (some ⟨g', off, none⟩) n c)) (hF : nth F k = some (pt g' t0 cs))
    (hG : setF F k (ptz g' t0 (cs.length, cs.length + 1) cs) = some G) (hd : Nat.blt d N = true) (h : SO P ro N l rest Q ((d, .slice (some ⟨g', off, none⟩) n c) :: E) ds b G) : SO P ro N l (⟨some d, op, ty, pos, aft, g⟩ :: rest) Q E ds b F := by
  subst hop
  constructor
  intro w H
  obtain ⟨w', h1, h2⟩ := ex_mark (P := P) (ty := ty) k ht he hx hF hG w H
  exact ow_ex hg h1 hd (h.1 w' h2)
theorem sd_mark {t e g' t0 off n c s1 s2 s3 s4 : Nat} {z1 z2 : Value} {f1 f2 : List (Nat × Nat)} {x : Operand} {cs : List Value} (k : Nat) (hg : wants l E g = some true) (hf : fl ⟨some d, op, ty, pos, aft, g⟩ = false) (hop : op = .convert t t x) (ht : tt t = some ⟨.slice e, s1, s2, z1, f1⟩) (he : tt e = some ⟨.int .u8, s3, s4, z2, f2⟩) (hx : ev E x = some (.slice (some ⟨g', off, none⟩) n c)) (hF : nth F k = some (pt g' t0 cs))
    (hG : setF F k (ptz g' t0 (cs.length, cs.length + 1) cs) = some G) (hd : Nat.blt d N = true) (hE : Ent G F0) (h : SD P fl ro N F0 l (kk + 1) rest Q ((d, .slice (some ⟨g', off, none⟩) n c) :: E) ds b G) : SD P fl ro N F0 l kk (⟨some d, op, ty, pos, aft, g⟩ :: rest) Q E ds b F := by
  subst hop
  constructor
  intro w H
  obtain ⟨w', h1, h2⟩ := ex_mark (P := P) (ty := ty) k ht he hx hF hG w H
  exact dw_ex hg hf h1 (h2.ent hE) hd (h.1 w' h2)
theorem evp_parts {E : List (Nat × Value)} : ∀ {parts : List (Nat × Operand)} {vs : List (Nat × Value)}, evp E parts = some vs → (parts.map fun p => ev E p.2) = vs.map (fun p => some p.2) ∧ parts.map (·.1) = vs.map (·.1)
  | [], vs, h => by simp [evp] at h; subst h; simp
  | (k, x) :: parts, vs, h => by
    simp only [evp] at h
    split at h
    · rename_i v r h1 h2
      cases h
      obtain ⟨i1, i2⟩ := evp_parts h2
      simp [h1, i1, i2]
    · cases h
/-- A slice literal in a drawn region. -/
theorem sd_lit (us : List Value) {t len e s1 s2 : Nat} {z1 : Value} {f1 : List (Nat × Nat)} {i : TI} {parts : List (Nat × Operand)} (hg : wants l E g = some true) (hf : fl ⟨some d, op, ty, pos, aft, g⟩ = false) (hop : op = .buildSlice t len ⟨parts⟩)
    (ht : tt t = some ⟨.slice e, s1, s2, z1, f1⟩) (he : tt e = some i) (hi : Nat.beq i.size 1 = true) (hp : evp E parts = some (enum 0 us)) (hl : (Nat.beq len us.length && Nat.ble len 16777216) = true) (h1 : us.all (·.oneCell') = true) (hd : Nat.blt d N = true) (hE : Ent F F0)
    (h : ∀ g', SD P fl ro N F0 l (kk + 1) rest Q ((d, .slice (some ⟨g', 0, none⟩) len len) :: E) ds b (pt g' e us :: F)) : SD P fl ro N F0 l kk (⟨some d, op, ty, pos, aft, g⟩ :: rest) Q E ds b F := by
  subst hop
  constructor
  intro w H
  have hi' := Nat.eq_of_beq_eq_true hi
  have hl' := hl
  simp only [Bool.and_eq_true] at hl'
  have hlen := Nat.eq_of_beq_eq_true hl'.1
  have hle := Nat.le_of_ble_eq_true hl'.2
  have hpp := evp_parts hp
  have hx := ex_buildSlice (P := P) (ty := ty) (w := w) ht he hpp.1 hpp.2 (len := len) (cells := us) (by rw [hi']; omega) (fun z hz => by
    rw [hi'] at hz ⊢
    have := fill_enum us 0 z (by omega) (fun u hu => List.all_eq_true.1 h1 u hu)
    simpa using this)
  have B := Blk.new w e us
  have H' := H.alloc (Fr.alloc w _) B (Nat.le_refl _)
  exact dw_ex hg hf hx ((H.ext (Fr.alloc w _)).ent hE) hd ((h w.heap.size).1 _ H')
end
end Go.Eng
