/- The engine, part eight: structs that are built, stored, told as results, compared; slices that are made; numbers that wrap. Conditions: as part two. -/
import Derived.Test.YtgebobjihojljaaEngH
import Derived.Laws.StructEq
import Derived.Laws.OwnMore
import Derived.Laws.CopyRow
namespace Go.Eng
open Go Go.RowKit

/-- What wraps. -/
def pevw (E : List (Nat × Value)) : Op → Option Value
  | .binOp .add _ x y _ => match ev E x, ev E y with
    | some (.int k a), some (.int k' b) => match ikb k k' with
      | true => some (.int k (k.wrap (a + b)))
      | false => none
    | _, _ => none
  | .binOp .sub _ x y _ => match ev E x, ev E y with
    | some (.int k a), some (.int k' b) => match ikb k k' with
      | true => some (.int k (k.wrap (a - b)))
      | false => none
    | _, _ => none
  | .binOp .mul _ x y _ => match ev E x, ev E y with
    | some (.int k a), some (.int k' b) => match ikb k k' with
      | true => some (.int k (k.wrap (a * b)))
      | false => none
    | _, _ => none
  | _ => none
theorem pevw_sound {P : Program} {E : List (Nat × Value)} {op : Op} {ty : TypeId} {v : Value} (h : pevw E op = some v) : Pu P E op ty v := by
  intro w ρ o hρ ho _
  unfold pevw at h
  split at h
  all_goals first | (cases h; done) | skip
  all_goals
    split at h
    · rename_i h1 h2
      split at h
      · rename_i hk
        obtain rfl := ikb_eq hk
        cases h
        simp [execOp, ho, hρ _ _ h1, hρ _ _ h2, eqGuard_int, binOp, Op.intArith]
      · cases h
    · cases h

/-- What is built: a struct; an array. -/
def places (tt : Nat → Option TI) : List (Nat × Nat) → Option (List (Nat × Nat))
  | [] => some []
  | (t, o) :: fs => match tt t, places tt fs with
    | some i, some l => some ((o, i.size) :: l)
    | _, _ => none
def evp (E : List (Nat × Value)) : List (Nat × Operand) → Option (List (Nat × Value))
  | [] => some []
  | (k, x) :: l => match ev E x, evp E l with
    | some v, some r => some ((k, v) :: r)
    | _, _ => none
def pevb (tt : Nat → Option TI) (E : List (Nat × Value)) : Op → Option Value
  | .build t ⟨parts⟩ => match tt t with
    | some ⟨.struct _, _, _, .agg ⟨zs⟩, fs⟩ => match places tt fs, evp E parts with
      | some pl, some vs => match fillL (nth pl) zs vs with
        | some cs => some (.agg ⟨cs⟩)
        | none => none
      | _, _ => none
    | some ⟨.array _ e, _, _, .agg ⟨zs⟩, _⟩ => match tt e, evp E parts with
      | some i, some vs => match fillL (fun k => some (k * i.size, i.size)) zs vs with
        | some cs => some (.agg ⟨cs⟩)
        | none => none
      | _, _ => none
    | _ => none
  | _ => none
theorem evp_map {E : List (Nat × Value)} {ρ : Operand → Value} (hρ : ∀ x u, ev E x = some u → ρ x = u) : ∀ (l : List (Nat × Operand)) (vs : List (Nat × Value)), evp E l = some vs → l.map (fun p => (p.1, ρ p.2)) = vs
  | [], vs, h => by simp [evp] at h; simp [h]
  | (k, x) :: l, vs, h => by
    simp only [evp] at h
    split at h
    · rename_i v r h1 h2
      cases h
      simp [hρ _ _ h1, evp_map hρ l r h2]
    · cases h
theorem places_run {P : Program} {tt : Nat → Option TI} [TT P tt] (w : World) : ∀ (fs : List Field) (pl : List (Nat × Nat)), places tt (fs.map fun f => (f.type, f.offset)) = some pl →
    (fs.mapM fun f => do pure (f.offset, ← sizeOf f.type) : Sem (List (Nat × Nat))).run P w = .ok pl w
  | [], pl, h => by simp [places] at h; simp [h]
  | f :: fs, pl, h => by
    simp only [List.map_cons, places] at h
    split at h
    · rename_i i l h1 h2
      cases h
      simp only [List.mapM_cons, Sem.run_bind, TT.run_size h1, Result.andThen, Sem.run_pure, places_run w fs l h2]
    · cases h
theorem pevb_sound {P : Program} {tt : Nat → Option TI} [TT P tt] {E : List (Nat × Value)} {op : Op} {ty : TypeId} {v : Value} (h : pevb tt E op = some v) : Pu P E op ty v := by
  intro w ρ o hρ ho _
  unfold pevb at h
  split at h
  · rename_i t parts
    have hp : ∀ vs, evp E parts = some vs → Array.toList (Array.map (fun x => (x.fst, ρ x.snd)) ⟨parts⟩) = vs := fun vs hv => by
      have := evp_map hρ parts vs hv
      simpa using this
    split at h
    · rename_i h1
      split at h
      · rename_i pl vs h2 h3
        split at h
        · rename_i cs h4
          cases h
          obtain ⟨fa, hf1, hf2⟩ := TT.run_st (P := P) h1 rfl
          simp only at hf2
          rw [← hf2] at h2
          have h5 := places_run (P := P) w fa.toList pl h2
          have h6 := fill_of h4
          have hm : (fa.mapM fun f => do pure (f.offset, ← sizeOf f.type) : Sem (Array (Nat × Nat))).run P w = .ok pl.toArray w := by
            rw [Array.mapM_eq_mapM_toList]
            show Sem.run P ((fa.toList.mapM fun f => do pure (f.offset, ← sizeOf f.type) : Sem (List (Nat × Nat))) >>= fun l => pure l.toArray) w = _
            rw [Sem.run_bind, h5]
            rfl
          have e7 : (nth pl) = fun k => pl[k]? := by funext k; exact nth_eq pl k
          rw [e7] at h6
          simp only [execOp, ho, Instr.build, Sem.run_bind, TT.run_zero h1, hf1, Result.andThen, hm, hp _ h3, Value.cells]
          simp only [List.getElem?_toArray, h6, Sem.run_pure]
        · cases h
      · cases h
    · rename_i h1
      split at h
      · rename_i i vs h2 h3
        split at h
        · rename_i cs h4
          cases h
          have h6 := fill_of h4
          simp only [execOp, ho, Instr.build, Sem.run_bind, TT.run_zero h1, TT.run_und h1 rfl, TT.run_size h2, Result.andThen, hp _ h3, Value.cells, h6, Sem.run_pure]
        · cases h
      · cases h
    · cases h
  · cases h

section
variable {P : Program} {tt : Nat → Option TI} [TT P tt] {ro : Option Nat} {N k : Nat} {l rest : List Oper} {Q : Exit → Act → World → Prop} {E : List (Nat × Value)} {ds : List Deferred} {w w' : World} {fl : Oper → Bool} {S : World → Prop}
  {d : Nat} {op : Op} {ty : TypeId} {pos : String} {aft : Array Edge} {g : Option (Nat × Bool)} {v : Value}
theorem o_w (hg : wants l E g = some true) (hx : pevw E op = some v) (hd : Nat.blt d N = true) (h : OW P ro N l rest Q ((d, v) :: E) ds w) :
    OW P ro N l (⟨some d, op, ty, pos, aft, g⟩ :: rest) Q E ds w := ow_pu hg (pevw_sound hx) hd h
theorem o_b (hg : wants l E g = some true) (hx : pevb tt E op = some v) (hd : Nat.blt d N = true) (h : OW P ro N l rest Q ((d, v) :: E) ds w) :
    OW P ro N l (⟨some d, op, ty, pos, aft, g⟩ :: rest) Q E ds w := ow_pu hg (pevb_sound hx) hd h
theorem d_w (hg : wants l E g = some true) (hx : pevw E op = some v) (hf : fl ⟨some d, op, ty, pos, aft, g⟩ = true) (hd : Nat.blt d N = true)
    (h : DW P fl ro N S l (k + 1) rest Q ((d, v) :: E) ds w) : DW P fl ro N S l k (⟨some d, op, ty, pos, aft, g⟩ :: rest) Q E ds w :=
  dw_rd hg hf (fun W _ => pevw_sound hx W) hd h
theorem d_b (hg : wants l E g = some true) (hx : pevb tt E op = some v) (hf : fl ⟨some d, op, ty, pos, aft, g⟩ = true) (hd : Nat.blt d N = true)
    (h : DW P fl ro N S l (k + 1) rest Q ((d, v) :: E) ds w) : DW P fl ro N S l k (⟨some d, op, ty, pos, aft, g⟩ :: rest) Q E ds w :=
  dw_rd hg hf (fun W _ => pevb_sound hx W) hd h

/-- Structs and arrays are compared. -/
class EqT (P : Program) (t : Nat) : Prop where
  guard : P.eqGuardType P.depth t = false
theorem pu_eqA {t t' : Nat} {x y : Operand} {cx cy : Array Value} {r : Bool} [he : EqT P t] (hx : ev E x = some (.agg cx)) (hy : ev E y = some (.agg cy))
    (hr : ∀ w, (Op.equalIn 10000 t (.agg cx) (.agg cy)).run P w = .ok r w) : Pu P E (.binOp .eql t x y t') ty (.bool r) := by
  intro w ρ o hρ ho _
  simp [execOp, ho, hρ _ _ hx, hρ _ _ hy, run_eqGuard_agg w .eql t x y cx cy he.guard, run_eql_struct, hr, Result.andThen]
theorem pu_neA {t t' : Nat} {x y : Operand} {cx cy : Array Value} {r : Bool} [he : EqT P t] (hx : ev E x = some (.agg cx)) (hy : ev E y = some (.agg cy))
    (hr : ∀ w, (Op.equalIn 10000 t (.agg cx) (.agg cy)).run P w = .ok r w) : Pu P E (.binOp .neq t x y t') ty (.bool (!r)) := by
  intro w ρ o hρ ho _
  simp [execOp, ho, hρ _ _ hx, hρ _ _ hy, run_eqGuard_agg w .neq t x y cx cy he.guard, run_neq_struct, hr, Result.andThen]

/-- A slice is made, full. -/
theorem ow_make {t e base n sz s1 s2 : Nat} {z1 : Value} {f1 : List (Nat × Nat)} {i : TI} {x y : Operand} {m : Int} (hg : wants l E g = some true) (hd : Nat.blt d N = true) (hop : op = .makeSlice t x y)
    (ht : tt t = some ⟨.slice e, s1, s2, z1, f1⟩) (he : tt e = some i) (hi : (Nat.beq i.size sz && Nat.ble i.bytes 2097152) = true)
    (hx : ev E x = some (.int .i64 m)) (hy : ev E y = some (.int .i64 m)) (hm : m = (n : Int)) (hn : n ≤ 67108864) (hbase : base ≤ w.heap.size)
    (h : ∀ w', Mine w' base e sz (.slice (some ⟨w.heap.size, 0, none⟩) n n) n (madeCells i.zero.cells (n * sz)).toList → Ext w w' → OW P ro N l rest Q ((d, .slice (some ⟨w.heap.size, 0, none⟩) n n) :: E) ds w') :
    OW P ro N l (⟨some d, op, ty, pos, aft, g⟩ :: rest) Q E ds w := by
  simp only [Bool.and_eq_true] at hi
  obtain ⟨hi, hb⟩ := hi
  have hi := Nat.eq_of_beq_eq_true hi
  have hb := Nat.le_of_ble_eq_true hb
  subst hi
  subst hm
  obtain ⟨j, hj, h2, h3, h4⟩ := TT.info (P := P) e i he
  have hbytes : j.bytes * n ≤ 281474976710656 := by rw [h3]; exact Nat.le_trans (Nat.mul_le_mul hb hn) (by decide)
  obtain ⟨w', hrun, ho, hgr⟩ := run_make_full (P := P) w base t e j i.zero i.size (TT.und (P := P) t _ ht rfl) hj h4 h2 .i64 .i64 n hbytes (by unfold maxLen; omega) hbase
  refine ow_ex hg ?_ hd (h w' ho ((Fr.grown hgr).mono fun k _ hk => by cases hk))
  intro ρ o hρ hop' _
  subst hop
  simp [execOp, hop', hρ _ _ hx, hρ _ _ hy, hrun]
end

/-! ## Stores of several cells -/
theorem Fr.setRow (w : World) (g : Nat) (cs : Array Value) : Fr (· = g) w (w.setRow g cs) :=
  ⟨rfl, rfl, rfl, by simp [World.setRow], fun k _ hne => by simp only [World.setRow, Array.getElem?_modify]; rw [if_neg (fun e => hne e.symm)]⟩
theorem Blk.setRow {w : World} {g t : Nat} {cs ds : List Value} (h : Blk w g t cs) : Blk (w.setRow g ds.toArray) g t ds := setRow_heap w g cs.toArray ds.toArray t (0, 0) h

section
variable {P : Program} {tt : Nat → Option TI} [TT P tt] {E : List (Nat × Value)} {ty : TypeId} {w : World}
theorem eu_storeRow {t b off t0 : Nat} {x y : Operand} {i : TI} {v : Value} {cur : Array Value} {vs : List Value} (ht : tt t = some i) (hx : ev E x = some (.pointer (some ⟨b, off, none⟩))) (hy : ev E y = some v)
    (hvs : v.cells.toList = vs) (hs : Nat.beq vs.length i.size = true) (h1 : ∀ u ∈ vs, u.oneCell' = true) (hb : w.heap[b]? = some (.cells cur t0 (0, 0))) (hfit : off + vs.length ≤ cur.size) :
    Eu P E (.store t x y) ty w (w.setRow b (spl cur.toList off vs).toArray) := by
  intro ρ o hρ ho _
  have hs := Nat.eq_of_beq_eq_true hs
  have hst := run_storeCells_at P b off t0 vs 0 cur w hb (by simpa using hfit) h1
  have hz : v.cells.size = i.size := by rw [← Array.length_toList, hvs, hs]
  simp only [execOp, ho, Instr.storeAt, Instr.sureAddr, storeVar, hρ _ _ hx, hρ _ _ hy, Sem.run_bind, Sem.run_pure, Result.andThen, TT.run_size ht, hz, hvs]
  simp only [Nat.add_zero] at hst
  simp [hst, spl]
/-- Into a block known whole. -/
theorem eu_storeB {t b off t0 : Nat} {x y : Operand} {i : TI} {v : Value} {cs vs : List Value} (ht : tt t = some i) (hx : ev E x = some (.pointer (some ⟨b, off, none⟩))) (hy : ev E y = some v)
    (hvs : v.cells.toList = vs) (hs : Nat.beq vs.length i.size = true) (h1 : ∀ u ∈ vs, u.oneCell' = true) (hb : Blk w b t0 cs) (hfit : Nat.ble (off + vs.length) cs.length = true) :
    Eu P E (.store t x y) ty w (w.setRow b (spl cs off vs).toArray) := by
  have := eu_storeRow (P := P) (ty := ty) (cur := cs.toArray) ht hx hy hvs hs h1 hb (by simpa using Nat.le_of_ble_eq_true hfit)
  simpa using this
end

/-- Into what the call itself made. -/
theorem Mine.stored {w : World} {base e sz n off : Nat} {v : Value} {cs vs : List Value} (h : Mine w base e sz v n cs) {g : Nat} {cur : Array Value} {fr : Nat × Nat} {t0 : Nat} (hv : v.ownBlock = some g) (hg : w.heap[g]? = some (.cells cur t0 fr)) (hfit : off + vs.length ≤ cs.length) :
    Mine (w.setRow g (spl cur.toList off vs).toArray) base e sz v n (spl cs off vs) := by
  rcases h.2 with ⟨rfl, _⟩ | ⟨g', cap', cur', rfl, hb, hg', hnc, hcm, hcs, htake⟩
  · cases hv
  · simp only [Value.ownBlock, Option.some.injEq] at hv
    subst hv
    rw [hg'] at hg
    simp only [Option.some.injEq, Obj.cells.injEq] at hg
    obtain ⟨rfl, rfl, rfl⟩ := hg
    have hl : cs.length ≤ cur'.size := by rw [← htake]; simp; omega
    have hfit' : off + vs.length ≤ cur'.toList.length := by simp; omega
    refine ⟨by rw [spl_length hfit]; exact h.1, .inr ⟨g', cap', _, rfl, hb, setRow_heap w g' cur' _ e (0, 0) hg', hnc, hcm, by simp [spl_length hfit', hcs], ?_⟩⟩
    rw [← htake, ← h.1]
    simp only [spl, List.take_take]
    have h1 := h.1
    rw [List.take_append, List.take_append, List.take_take, List.length_take, List.take_drop]
    have e1 : min off (cs.length) = off := by omega
    have e2 : min off cur'.toList.length = off := by simp; omega
    rw [Nat.min_comm cs.length off, e1, e2, List.take_of_length_le (show vs.length ≤ cs.length - off by omega)]
    congr 3
    rw [show off + vs.length + (cs.length - off - vs.length) = cs.length from by omega]
theorem Mine.row {w : World} {base e sz n : Nat} {v : Value} {cs : List Value} (h : Mine w base e sz v n cs) (hn : 0 < n) : ∃ g cap cur, v = .slice (some ⟨g, 0, none⟩) n cap ∧ base ≤ g ∧ g < w.heap.size ∧ w.heap[g]? = some (.cells cur e (0, 0)) ∧ cs.length ≤ cur.size ∧ cur.toList.take cs.length = cs := by
  rcases h.2 with ⟨_, rfl⟩ | ⟨g', cap', cur', rfl, hb, hg', hnc, hcm, hcs, htake⟩
  · omega
  · rw [← h.1] at htake
    refine ⟨g', cap', cur', rfl, hb, (Array.getElem?_eq_some_iff.1 hg').1, hg', ?_, htake⟩
    rw [← htake]; simp; omega

theorem Mine.weaken {w : World} {base base' e sz n : Nat} {v : Value} {cs : List Value} (h : Mine w base e sz v n cs) (hb : base' ≤ base) : Mine w base' e sz v n cs := by
  refine ⟨h.1, ?_⟩
  rcases h.2 with hn | ⟨g, cap, cur, rfl, hb', rest⟩
  · exact .inl hn
  · exact .inr ⟨g, cap, cur, rfl, by omega, rest⟩
theorem Mine.nil (w : World) (base e sz : Nat) : Mine w base e sz (.slice none 0 0) 0 [] := ⟨by simp, .inl ⟨rfl, rfl⟩⟩
theorem Blk.sl {w : World} {g t sz n : Nat} {cs : List Value} (h : Blk w g t cs) (hn : cs.length = n * sz) (hm : n ≤ 67108864) : SL w sz (.slice (some ⟨g, 0, none⟩) n n) n cs :=
  ⟨_, n, rfl, hn, Nat.le_refl _, by unfold maxLen; omega, by simp, fun _ => ⟨g, 0, rfl, h.lt, fun j _ => by rw [Nat.zero_add]; exact h.cell j⟩⟩
theorem Mine.len {w : World} {base e sz n : Nat} {v : Value} {cs : List Value} (h : Mine w base e sz v n cs) : cs.length = n * sz := h.1

/-! ## Results that lie in cells -/
section
variable {P : Program} {tt : Nat → Option TI} [TT P tt] {N : Nat} {E : List (Nat × Value)} {w : World} {fn : Func} {R : Ending → World → Prop}
theorem loadVar_agg {t b off : Nat} {i : TI} {cs : List Value} (ht : tt t = some i) (hagg : aggT i.desc = true) (hn : Nat.beq cs.length i.size = true) (hc : ∀ j, j < cs.length → w.cell? ⟨b, off + j, none⟩ = cs[j]?) :
    (loadVar t ⟨b, off, none⟩).run P w = .ok (.agg cs.toArray) w := by
  have hn := Nat.eq_of_beq_eq_true hn
  have h2 := run_loadCells_list (P := P) w ⟨b, off, none⟩ cs (fun j v hj => by
    have hlt : j < cs.length := (List.getElem?_eq_some_iff.1 hj).1
    have ha : (⟨b, off, none⟩ : Addr).add j = ⟨b, off + j, none⟩ := by unfold Addr.add; split <;> simp_all
    rw [ha, hc j hlt, hj])
  simp [loadVar, run_isAgg ht, hagg, TT.run_size ht, ← hn, h2]
theorem pn_retC {t ct b : Nat} {i : TI} {cs : List Value} (hr : fn.results = #[.cell t ct]) (hv : look E t = some (.pointer (some ⟨b, 0, none⟩))) (ht : tt ct = some i) (hagg : aggT i.desc = true) (hn : Nat.beq cs.length i.size = true)
    {t0 : Nat} (hb : Blk w b t0 cs) (h : R (.returned (.agg cs.toArray)) w) : PN N (bodyPost P fn R) .ret E [] w := by
  intro a hk hd
  refine ⟨hd, .agg cs.toArray, ?_, h⟩
  have := hk.2 _ _ hv
  have h2 := loadVar_agg (P := P) (w := w) (b := b) (off := 0) ht hagg hn (fun j _ => by rw [Nat.zero_add]; exact hb.cell j)
  simp [results, hr, Array.getD_eq_getD_getElem?, this, asAddr, h2]
end
/-! ## New memory, its world kept out of sight -/
def enum : Nat → List Value → List (Nat × Value)
  | _, [] => []
  | k, v :: vs => (k, v) :: enum (k + 1) vs
theorem fill_enum : ∀ (us : List Value) (k : Nat) (z : List Value), z.length = k + us.length → (∀ u ∈ us, u.oneCell' = true) → fillL (fun j => some (j * 1, 1)) z (enum k us) = some (z.take k ++ us)
  | [], k, z, hz, _ => by simp at hz; simp [enum, fillL, ← hz]
  | u :: us, k, z, hz, h1 => by
    have hu : u.cells.toList = [u] := by have := h1 u (by simp); cases u <;> first | rfl | (simp [Value.oneCell'] at this)
    have hs : u.cells.size = 1 := by rw [← Array.length_toList, hu]; rfl
    simp only [List.length_cons] at hz
    have e1 : Nat.beq u.cells.size 1 = true := by rw [hs]; rfl
    have e2 : Nat.ble (k * 1 + 1) z.length = true := Nat.ble_eq_true_of_le (by omega)
    simp only [enum, fillL, e1, e2, hu, Nat.mul_one]
    have hl : (spl z k [u]).length = k + 1 + us.length := by rw [spl_length (by simp; omega)]; omega
    have ih := fill_enum us (k + 1) (spl z k [u]) hl (fun x hx => h1 x (by simp [hx]))
    simp only [Nat.mul_one] at ih
    have e3 : Nat.ble (k + 1) z.length = true := by simpa using e2
    rw [e3, ih]
    have hk : (z.take k).length = k := by simp; omega
    have : (spl z k [u]).take (k + 1) = z.take k ++ [u] := by
      have e4 : spl z k [u] = (z.take k ++ [u]) ++ z.drop (k + [u].length) := by simp [spl]
      rw [e4, List.take_left' (by simp [hk])]
    rw [this]
    simp
section
variable {P : Program} {tt : Nat → Option TI} [TT P tt] {ro : Option Nat} {N k : Nat} {l rest : List Oper} {Q : Exit → Act → World → Prop} {E : List (Nat × Value)} {ds : List Deferred} {w w' : World} {fl : Oper → Bool} {S : World → Prop}
  {d : Nat} {op : Op} {ty : TypeId} {pos : String} {aft : Array Edge} {g : Option (Nat × Bool)} {v : Value}
def snds (E : List (Nat × Value)) : Op → Option (List (Nat × Value))
  | .buildSlice _ _ ⟨parts⟩ => evp E parts
  | _ => none
/-- A slice of given elements of one cell each. -/
theorem ow_lit (us : List Value) {t len e s1 s2 : Nat} {z1 : Value} {f1 : List (Nat × Nat)} {i : TI} {parts : List (Nat × Operand)} (hg : wants l E g = some true) (hop : op = .buildSlice t len ⟨parts⟩)
    (ht : tt t = some ⟨.slice e, s1, s2, z1, f1⟩) (he : tt e = some i) (hi : Nat.beq i.size 1 = true) (hp : evp E parts = some (enum 0 us)) (hl : (Nat.beq len us.length && Nat.ble len 16777216) = true) (h1 : us.all (·.oneCell') = true) (hd : Nat.blt d N = true)
    (h : ∀ w', Blk w' w.heap.size e us → Ext w w' → OW P ro N l rest Q ((d, .slice (some ⟨w.heap.size, 0, none⟩) len len) :: E) ds w') :
    OW P ro N l (⟨some d, op, ty, pos, aft, g⟩ :: rest) Q E ds w := by
  simp only [Bool.and_eq_true] at hl
  have hl1 := Nat.eq_of_beq_eq_true hl.1
  have hl2 := Nat.le_of_ble_eq_true hl.2
  have hi := Nat.eq_of_beq_eq_true hi
  have hone := List.all_eq_true.1 h1
  have hparts : ∀ (parts : List (Nat × Operand)) (vs : List (Nat × Value)), evp E parts = some vs → (parts.map fun p => ev E p.2) = vs.map (fun p => some p.2) ∧ parts.map (·.1) = vs.map (·.1) := by
    intro parts
    induction parts with
    | nil => intro vs h; simp [evp] at h; subst h; simp
    | cons p parts ih =>
      obtain ⟨k, x⟩ := p
      intro vs h
      simp only [evp] at h
      split at h
      · rename_i v r h1 h2
        cases h
        obtain ⟨i1, i2⟩ := ih r h2
        simp [h1, i1, i2]
      · cases h
  obtain ⟨q1, q2⟩ := hparts _ _ hp
  subst hop
  refine ow_ex hg (ex_buildSlice (i := i) (vs := enum 0 us) (cells := us) ht he q1 q2 (by rw [hi]; omega) (fun z hz => ?_)) hd (h _ ?_ (Fr.alloc _ _))
  · rw [hi] at hz ⊢
    have := fill_enum us 0 z (by omega) (fun u hu => hone u hu)
    simpa using this
  · exact Blk.new w e us
/-- A variable of its own: boxed; new. -/
theorem ow_box {t : Nat} {x : Operand} (hg : wants l E g = some true) (hop : op = .box t x) (hx : ev E x = some v) (hd : Nat.blt d N = true)
    (h : ∀ w', Blk w' w.heap.size t v.cells.toList → Ext w w' → w'.heap.size = w.heap.size + 1 → OW P ro N l rest Q ((d, .pointer (some ⟨w.heap.size, 0, none⟩)) :: E) ds w') :
    OW P ro N l (⟨some d, op, ty, pos, aft, g⟩ :: rest) Q E ds w := by
  subst hop
  exact ow_ex hg (ex_box hx) hd (h _ (by have := Blk.new w t v.cells.toList; simpa using this) (Fr.alloc _ _) (by simp))
theorem ow_new {t : Nat} {i : TI} (hg : wants l E g = some true) (hop : op = .alloc t) (ht : tt t = some i) (hd : Nat.blt d N = true)
    (h : ∀ w', Blk w' w.heap.size t i.zero.cells.toList → Ext w w' → w'.heap.size = w.heap.size + 1 → OW P ro N l rest Q ((d, .pointer (some ⟨w.heap.size, 0, none⟩)) :: E) ds w') :
    OW P ro N l (⟨some d, op, ty, pos, aft, g⟩ :: rest) Q E ds w := by
  subst hop
  exact ow_ex hg (ex_alloc ht) hd (h _ (by have := Blk.new w t i.zero.cells.toList; simpa using this) (Fr.alloc _ _) (by simp))
end
end Go.Eng
