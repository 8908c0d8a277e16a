/- The engine, part seventeen: strings, bytes, cut arrays, what is cleared, the model's stand-ins. Conditions: as part two. -/
import Derived.Test.YtgebobjihojljaaEngQ
import Derived.Laws.BytesArg
import Derived.Lib.BytesEntry
import Derived.Lib.ConvBytes
import Derived.Lib.SliceRun
namespace Go.Eng
open Go Go.RowKit

section
variable {P : Program} {tt : Nat → Option TI} [TT P tt] {E : List (Nat × Value)} {op : Op} {ty : TypeId} {v : Value}
/-- A bound. -/
def bnd (E : List (Nat × Value)) (d : Int) : Option Operand → Option Int
  | none => some d
  | some y => match ev E y with
    | some (.int _ l) => some l
    | _ => none
/-- Texts; a cut array. -/
def pevs (tt : Nat → Option TI) (E : List (Nat × Value)) : Op → Option (Prop × Value)
  | .binOp .add _ x y _ => match ev E x, ev E y with
    | some (.string a), some (.string b) => some ((a.size : Int) + b.size ≤ 9223372036854775807, .string (a ++ b))
    | _, _ => none
  | .slice t x lo hi none => match tt t, ev E x with
    | some ⟨.array n e, _, _, _, _⟩, some (.pointer (some ⟨b, o, none⟩)) => match tt e, bnd E 0 lo, bnd E n hi with
      | some ⟨_, s, _, _, _⟩, some l, some h => some ((0 ≤ h ∧ h ≤ n) ∧ (0 ≤ l ∧ l ≤ h), .slice (some ⟨b, if n = l.toNat then o else o + l.toNat * s, none⟩) (h.toNat - l.toNat) (n - l.toNat))
      | _, _, _ => none
    | _, _ => none
  | _ => none
theorem sbound_run {P : Program} {w : World} {E : List (Nat × Value)} {ρ : Operand → Value} (hρ : ∀ x u, ev E x = some u → ρ x = u) {n : Nat} {l h : Int} {lo hi : Option Operand} (hl : bnd E 0 lo = some l) (hh : bnd E n hi = some h) (hc : (0 ≤ h ∧ h ≤ n) ∧ (0 ≤ l ∧ l ≤ h)) :
    (Instr.sliceBounds false n n (lo.map ρ) (hi.map ρ) none).run P w = .ok (l.toNat, h.toNat, n) w := by
  have h1 : ∀ {d : Int} {k : Int} {o : Option Operand}, bnd E d o = some k → (o = none ∧ d = k) ∨ ∃ y q, o = some y ∧ ρ y = .int q k := by
    intro d k o ho
    cases o with
    | none => left; simp [bnd] at ho; exact ⟨rfl, ho⟩
    | some y =>
      right
      simp only [bnd] at ho
      split at ho
      · rename_i q l' hy; simp only [Option.some.injEq] at ho; subst ho; exact ⟨y, _, rfl, hρ _ _ hy⟩
      · cases ho
  rcases h1 hl with ⟨rfl, rfl⟩ | ⟨y, q, rfl, hy⟩ <;> rcases h1 hh with ⟨rfl, rfl⟩ | ⟨y', q', rfl, hy'⟩
  · simp [Instr.sliceBounds]
  · simp [Instr.sliceBounds, hy', bound_ok (P := P) (k := q') (i := h) (y := n) hc.1]
  · simp [Instr.sliceBounds, hy, bound_ok (P := P) (k := q) (i := l) (y := n) (by omega)]
  · have : (0 : Int) ≤ l ∧ l ≤ (h.toNat : Nat) := by omega
    simp [Instr.sliceBounds, hy, hy', bound_ok (P := P) (k := q') (i := h) (y := n) hc.1, bound_ok (P := P) (k := q) (i := l) (y := h.toNat) this]
theorem pevs_sound {c : Prop} (h : pevs tt E op = some (c, v)) (hc : c) : Pu P E op ty v := by
  intro w ρ o hρ ho _
  unfold pevs at h
  split at h
  · split at h
    · rename_i a b h1 h2; simp only [Option.some.injEq, Prod.mk.injEq] at h; obtain ⟨rfl, rfl⟩ := h
      have : ¬ (((a.size + b.size : Nat) : Int) > IntKind.i64.max) := by
        have : IntKind.i64.max = 9223372036854775807 := rfl
        rw [this]; omega
      simp only [execOp, ho, hρ _ _ h1, hρ _ _ h2, Sem.run_bind, eqGuard_string, Result.andThen, binOp, Op.stringOp]
      rw [if_neg this]; rfl
    · cases h
  · rename_i t x lo hi
    split at h
    · rename_i n e s1 s2 z f b o' h1 h2
      split at h
      · rename_i ed s b1 z1 f1 l hh he hl hhh
        simp only [Option.some.injEq, Prod.mk.injEq] at h
        obtain ⟨rfl, rfl⟩ := h
        have hb := sbound_run (P := P) (w := w) hρ hl hhh hc
        simp only [execOp, ho, hρ _ _ h2, Instr.sliceAt, Sem.run_bind, TT.run_und h1 rfl, Result.andThen, Instr.sureAddr, Sem.run_pure, Option.map_none, hb, TT.run_size he]
        congr 4
        by_cases hn : n = l.toNat
        · simp [hn]
        · simp only [if_neg hn, Addr.add]
          split
          · rename_i h0; simp [h0]
          · rfl
      · cases h
    · cases h
  · cases h
end

/-! ## Rows of bytes -/
theorem VL.at {α : Type} {f : α → Value} {w : World} {bk off n c : Nat} {xs : List α} (h : VL f w (.slice (some ⟨bk, off, none⟩) n c) xs) (i : Nat) (hi : i < xs.length) : w.cell? ⟨bk, off + i, none⟩ = some (f xs[i]) := by
  obtain ⟨A, c', hv, _, _, _, hcell⟩ := h.op
  simp only [Value.slice.injEq] at hv
  obtain ⟨bk', off', hA, _, hc⟩ := hcell i hi
  obtain ⟨rfl, _, _⟩ := hv
  cases hA
  exact hc i hi
theorem VL.form {α : Type} {f : α → Value} {w : World} {v : Value} {xs : List α} (h : VL f w v xs) : ∃ A c, v = .slice A xs.length c ∧ xs.length ≤ c ∧ c ≤ 9223372036854775807 ∧ (A = none → c = 0) ∧ (0 < xs.length → ∃ bk off, A = some ⟨bk, off, none⟩) := by
  obtain ⟨A, c, h1, h2, h3, h4, hcell⟩ := h.op
  exact ⟨A, c, h1, h2, h3, h4, fun hp => by obtain ⟨bk, off, hA, _⟩ := hcell 0 hp; exact ⟨bk, off, hA⟩⟩
/-- A piece of what is read. -/
theorem VL.sub {α : Type} {f : α → Value} {w : World} {A A' : Option Addr} {n c c' l h : Nat} {xs : List α} (hv : VL f w (.slice A n c) xs) (hlh : l ≤ h) (hh : h ≤ xs.length) (hc : h - l ≤ c') (hm : c' ≤ 9223372036854775807) (hA : l < h → ∀ bk off, A = some ⟨bk, off, none⟩ → A' = some ⟨bk, off + l, none⟩) (hz : A' = none → c' = 0) :
    VL f w (.slice A' (h - l) c') ((xs.take h).drop l) := by
  obtain ⟨A0, c0, h1, h2, h3, h4, hcell⟩ := hv.op
  simp only [Value.slice.injEq] at h1
  obtain ⟨rfl, _, _⟩ := h1
  have hlen : ((xs.take h).drop l).length = h - l := by simp; omega
  refine ⟨A', c', by rw [hlen], by simp, by rw [hlen]; exact hc, by unfold maxLen; omega, hz, fun hp => ?_⟩
  rw [hlen] at hp
  obtain ⟨bk, off, hA0, hb, hcc⟩ := hcell l (by omega)
  refine ⟨bk, off + l, hA (by omega) bk off hA0, hb, fun j hj => ?_⟩
  simp only [List.length_map, hlen] at hj
  rw [Nat.add_assoc, hcc (l + j) (by omega)]
  rw [List.getElem?_map, List.getElem?_drop, List.getElem?_take, if_pos (by omega), List.getElem?_eq_getElem (by omega)]
  rfl
theorem run_bytesOf {P : Program} {w : World} {v : Value} {xs : List Int} (h : VL (Value.int .u8) w v xs) : (Extern.Bytes.bytesOf v).run P w = .ok (strOfNums xs) w := by
  obtain ⟨A, c, rfl, hn, hm, hz, hcell⟩ := h.op
  cases A with
  | none =>
    have : xs = [] := List.eq_nil_of_length_eq_zero (by have := hz rfl; omega)
    subst this; rfl
  | some a =>
    rcases Nat.eq_zero_or_pos xs.length with h0 | h0
    · have : xs = [] := List.eq_nil_of_length_eq_zero h0
      subst this; rfl
    · obtain ⟨bk, off, ha, hb, hc⟩ := hcell 0 h0
      cases ha
      have hl := Lib.run_loadBytesX (P := P) w xs ⟨bk, off, none⟩ .empty (fun j x hj => by
        have hjl : j < xs.length := (List.getElem?_eq_some_iff.1 hj).1
        have e : (⟨bk, off, none⟩ : Addr).add j = ⟨bk, off + j, none⟩ := by unfold Addr.add; split <;> simp_all
        rw [e, hc j hjl]
        rw [List.getElem?_eq_getElem hjl] at hj
        simp only [Option.some.injEq] at hj
        rw [hj])
      simp only [Extern.Bytes.bytesOf, hl]
      congr 1
      apply ByteArray.ext
      show (#[] : Array UInt8) ++ _ = _
      simp [strOfNums, Lib.bytesOf]
theorem run_bts {P : Program} {w : World} {v : Value} {xs : List Int} (h : VL (Value.int .u8) w v xs) : (Conv.bytesToString v).run P w = .ok (.string (strOfNums xs)) w := by
  obtain ⟨A, c, rfl, hn, hm, hz, hcell⟩ := h.op
  cases A with
  | none =>
    have : xs = [] := List.eq_nil_of_length_eq_zero (by have := hz rfl; omega)
    subst this; rfl
  | some a =>
    have hl : (loadCells a xs.length).run P w = .ok (xs.map (Value.int .u8)).toArray w := by
      rcases Nat.eq_zero_or_pos xs.length with h0 | h0
      · have : xs = [] := List.eq_nil_of_length_eq_zero h0
        subst this
        exact run_loadCells_list (P := P) w a [] (fun j u hj => by simp at hj)
      · obtain ⟨bk, off, ha, hb, hc⟩ := hcell 0 h0
        cases ha
        have := run_loadCells_list (P := P) w ⟨bk, off, none⟩ (xs.map (Value.int .u8)) (fun j u hj => by
          have hlt : j < xs.length := by have := (List.getElem?_eq_some_iff.1 hj).1; simpa using this
          have e : (⟨bk, off, none⟩ : Addr).add j = ⟨bk, off + j, none⟩ := by unfold Addr.add; split <;> simp_all
          rw [e, hc j hlt, ← hj, List.getElem?_map, List.getElem?_eq_getElem hlt]; rfl)
        rwa [List.length_map] at this
    rw [run_bytesToString w a xs.length c xs hl, foldl_push_bytes]
    congr 2
    apply ByteArray.ext
    show (#[] : Array UInt8) ++ _ = _
    simp [strOfNums]

section
variable {P : Program} {tt : Nat → Option TI} [TT P tt] {E : List (Nat × Value)} {ty : TypeId} {w : World}
/-- A text of bytes. -/
theorem ex_b2s {src dst e s1 s2 s3 s4 s5 s6 : Nat} {z1 z2 z3 : Value} {f1 f2 f3 : List (Nat × Nat)} {x : Operand} {v : Value} {xs : List Int} (hs : tt src = some ⟨.slice e, s1, s2, z1, f1⟩) (he : tt e = some ⟨.int .u8, s3, s4, z2, f2⟩) (hd : tt dst = some ⟨.string, s5, s6, z3, f3⟩)
    (hx : ev E x = some v) (hv : VL (Value.int .u8) w v xs) : Ex P E (.convert src dst x) ty w (.string (strOfNums xs)) w := by
  intro ρ o hρ ho _
  obtain ⟨A, c, hv', _⟩ := hv.op
  have := run_bts (P := P) hv
  subst hv'
  simp only [execOp, ho, hρ _ _ hx, Sem.run_bind]
  rw [run_convert_bytes_string w src dst e _ _ _ (TT.und _ _ hs rfl) (TT.und _ _ he rfl) (TT.und _ _ hd rfl), this]
  rfl
end

/-! ## Marked blocks (what a text was converted into) -/
def ptz (g t : Nat) (z : Nat × Nat) (cs : List Value) : SP := fun h => h g = some (.cells cs.toArray t z)
theorem Sat.ptz_vl {α : Type} {f : α → Value} {b : World} {F : List SP} {w : World} {k g t n c : Nat} {z : Nat × Nat} {cs : List Value} {xs : List α} (h : Sat b F w) (hk : nth F k = some (ptz g t z cs)) (hn : n = xs.length) (hc : n ≤ c) (hm : c ≤ 9223372036854775807) (hx : ∀ j, j < xs.length → cs[j]? = (xs.map f)[j]?) :
    VL f w (.slice (some ⟨g, 0, none⟩) n c) xs := by
  obtain ⟨h1, l, hA⟩ := h.mem.get hk
  have hh := l _ _ hA
  refine VL.mk hn hc (by unfold maxLen; omega) (ph_lt hh) fun j hj => ?_
  rw [Nat.zero_add, cell_of_row w g j _ t z hh]
  have := hx j hj
  rw [List.getElem?_map, List.getElem?_eq_getElem hj] at this
  simpa using this
theorem freeze_fr (w : World) (a : Addr) (n : Nat) : Fr (· = a.block) w (w.freeze a n) := by
  unfold World.freeze
  split
  · exact Fr.refl _ _
  · refine ⟨rfl, rfl, rfl, by simp, fun k hk hne => ?_⟩
    simp only [Array.getElem?_modify]
    rw [if_neg (fun h => hne h.symm)]

section
variable {P : Program} {tt : Nat → Option TI} [TT P tt] {ro : Option Nat} {N : Nat} {l rest : List Oper} {Q : Exit → Act → World → Prop} {E : List (Nat × Value)} {ds : List Deferred} {b : World} {F F0 G : List SP} {fl : Oper → Bool} {kk : Nat}
  {d : Nat} {op : Op} {ty : TypeId} {pos : String} {aft : Array Edge} {g : Option (Nat × Bool)} {v : Value}
theorem so_s {c : Prop} (hg : wants l E g = some true) (hx : pevs tt E op = some (c, v)) (hd : Nat.blt d N = true) (hc : c) (h : SO P ro N l rest Q ((d, v) :: E) ds b F) :
    SO P ro N l (⟨some d, op, ty, pos, aft, g⟩ :: rest) Q E ds b F := so_pu hg (pevs_sound hx hc) hd h
theorem sd_s {c : Prop} (hg : wants l E g = some true) (hx : pevs tt E op = some (c, v)) (hf : fl ⟨some d, op, ty, pos, aft, g⟩ = true) (hd : Nat.blt d N = true) (hc : c) (h : SD P fl ro N F0 l (kk + 1) rest Q ((d, v) :: E) ds b F) :
    SD P fl ro N F0 l kk (⟨some d, op, ty, pos, aft, g⟩ :: rest) Q E ds b F := sd_pu hg (pevs_sound hx hc) hf hd h
theorem so_b2s {src dst e s1 s2 s3 s4 s5 s6 : Nat} {z1 z2 z3 : Value} {f1 f2 f3 : List (Nat × Nat)} {x : Operand} {xs : List Int} (hg : wants l E g = some true) (hop : op = .convert src dst x) (hs : tt src = some ⟨.slice e, s1, s2, z1, f1⟩) (he : tt e = some ⟨.int .u8, s3, s4, z2, f2⟩) (hd' : tt dst = some ⟨.string, s5, s6, z3, f3⟩)
    (hx : ev E x = some v) (hd : Nat.blt d N = true) (hv : ∀ w, Sat b F w → VL (Value.int .u8) w v xs) (h : SO P ro N l rest Q ((d, .string (strOfNums xs)) :: E) ds b F) : SO P ro N l (⟨some d, op, ty, pos, aft, g⟩ :: rest) Q E ds b F := by
  subst hop; exact so_rd hg (fun w H => ex_b2s hs he hd' hx (hv w H)) hd h
theorem sd_b2s {src dst e s1 s2 s3 s4 s5 s6 : Nat} {z1 z2 z3 : Value} {f1 f2 f3 : List (Nat × Nat)} {x : Operand} {xs : List Int} (hg : wants l E g = some true) (hop : op = .convert src dst x) (hs : tt src = some ⟨.slice e, s1, s2, z1, f1⟩) (he : tt e = some ⟨.int .u8, s3, s4, z2, f2⟩) (hd' : tt dst = some ⟨.string, s5, s6, z3, f3⟩)
    (hx : ev E x = some v) (hf : fl ⟨some d, op, ty, pos, aft, g⟩ = true) (hd : Nat.blt d N = true) (hv : ∀ w, Sat b F0 w → VL (Value.int .u8) w v xs) (h : SD P fl ro N F0 l (kk + 1) rest Q ((d, .string (strOfNums xs)) :: E) ds b F) : SD P fl ro N F0 l kk (⟨some d, op, ty, pos, aft, g⟩ :: rest) Q E ds b F := by
  subst hop; exact sd_rd hg (fun w H => ex_b2s hs he hd' hx (hv w H)) hf hd h
/-- Bytes of a text. -/
theorem ex_s2b {src dst e s3 s4 s5 s6 : Nat} {z2 z3 : Value} {f2 f3 : List (Nat × Nat)} {i : TI} {x : Operand} {s : ByteArray} (hs : tt src = some i) (hi : isSt i.desc = false) (hd' : tt dst = some ⟨.slice e, s5, s6, z3, f3⟩) (he : tt e = some ⟨.int .u8, s3, s4, z2, f2⟩) (hx : ev E x = some (.string s)) (w : World) :
    Ex P E (.convert src dst x) ty w (.slice (some ⟨w.heap.size, 0, none⟩) s.size (grownCap w s.size 0 e)) (Lib.bytesWorld w e s) := by
  intro ρ o hρ ho _
  simp only [execOp, ho, hρ _ _ hx, Sem.run_bind]
  rw [Lib.run_convert_string_bytes w src dst e s (TT.und _ _ hs hi) (TT.und _ _ hd' rfl) (TT.und _ _ he rfl)]
  rfl
theorem bytesWorld_ext (w : World) (e : TypeId) (s : ByteArray) : Ext w (Lib.bytesWorld w e s) := by
  refine ⟨?_, ?_, ?_, by rw [Lib.bytesWorld_size]; omega, fun k hk _ => Lib.bytesWorld_at_old w e s k hk⟩ <;> (unfold Lib.bytesWorld World.freeze; split <;> rfl)
def strI (s : ByteArray) : List Int := s.data.toList.map fun x => (x.toNat : Int)
theorem strI_length (s : ByteArray) : (strI s).length = s.size := by rw [strI, List.length_map, Array.length_toList]; rfl
theorem Sat.s2b {w : World} (H : Sat b F w) (e : TypeId) (s : ByteArray) (c : Nat) : ∃ cs, Sat b (ptz w.heap.size e (cs.length, cs.length + 1) cs :: F) (Lib.bytesWorld w e s) ∧ ∀ j, j < s.size → cs[j]? = ((strI s).map (Value.int .u8))[j]? := by
  refine ⟨(Lib.bytesCells w e s).toList, H.new (bytesWorld_ext w e s) (one_le (h := ph _) (Lib.bytesWorld_at_new w e s)) (fun i hi => by rw [one_ne hi]; exact Nat.le_refl _) ?_, fun j hj => ?_⟩
  · have := one_at w.heap.size (Obj.cells (Lib.bytesCells w e s) e ((Lib.bytesCells w e s).size, (Lib.bytesCells w e s).size + 1))
    simpa [ptz] using this
  · have h1 : j < s.data.size := hj
    have h2 : j < s.data.toList.length := by rw [Array.length_toList]; exact h1
    simp only [Lib.bytesCells, Array.toList_append, Array.toList_map, strI]
    rw [List.getElem?_append_left (by rw [List.length_map]; exact h2)]
    simp only [List.getElem?_map, List.getElem?_eq_getElem h2, Option.map_some]
theorem so_s2b {src dst e s3 s4 s5 s6 : Nat} {z2 z3 : Value} {f2 f3 : List (Nat × Nat)} {i : TI} {x : Operand} {s : ByteArray} (hg : wants l E g = some true) (hop : op = .convert src dst x) (hs : tt src = some i) (hi : isSt i.desc = false) (hd' : tt dst = some ⟨.slice e, s5, s6, z3, f3⟩) (he : tt e = some ⟨.int .u8, s3, s4, z2, f2⟩)
    (hx : ev E x = some (.string s)) (hd : Nat.blt d N = true)
    (h : ∀ g' c cs, s.size ≤ c → (∀ j, j < s.size → cs[j]? = ((strI s).map (Value.int .u8))[j]?) → SO P ro N l rest Q ((d, .slice (some ⟨g', 0, none⟩) s.size c) :: E) ds b (ptz g' e (cs.length, cs.length + 1) cs :: F)) : SO P ro N l (⟨some d, op, ty, pos, aft, g⟩ :: rest) Q E ds b F := by
  subst hop
  constructor
  intro w H
  obtain ⟨cs, H', hcs⟩ := H.s2b e s 0
  exact ow_ex hg (ex_s2b hs hi hd' he hx w) hd ((h _ _ cs (grownCap_ge w s.size 0 e) hcs).1 _ H')
/-- Cells of a known block are cleared. -/
theorem eu_clear {t e g' t0 off n c s1 s2 s3 s4 : Nat} {z1 z : Value} {f1 f2 : List (Nat × Nat)} {dd : TypeDesc} {x : Operand} {cs : List Value} (k : Nat) (ht : tt t = some ⟨.slice e, s1, s2, z1, f1⟩) (he : tt e = some ⟨dd, s3, s4, z, f2⟩) (hz1 : z.oneCell' = true) (hx : ev E x = some (.slice (some ⟨g', off, none⟩) n c)) (hF : nth F k = some (pt g' t0 cs))
    (hfit : off + n ≤ cs.length) (hG : setF F k (pt g' t0 (spl cs off (List.replicate n z))) = some G) : ∀ w, Sat b F w → ∃ w' u, Ex P E (.call ⟨.builtin .clear, ⟨[x]⟩, ⟨[t]⟩⟩) ty w u w' ∧ Sat b G w' := fun w H => by
  have B := H.blk hF
  have hrun : ∃ w' u, (Builtin.clear_ #[t] ty #[.slice (some ⟨g', off, none⟩) n c]).run P w = .ok u w' ∧ Sat b G w' := by
    rcases Nat.eq_zero_or_pos n with h0 | h0
    · subst h0
      refine ⟨w, .tuple #[], ?_, ?_⟩
      · simp [Builtin.clear_, TT.run_und ht rfl]
      · have : spl cs off (List.replicate 0 z) = cs := by simp [spl]
        rw [this] at hG
        exact H.ent (ent_set k hF (fun _ h => h) hG)
    · have hzc : z.cells = #[z] := by cases z <;> first | rfl | (simp [Value.oneCell'] at hz1)
      have hrun := Lib.run_clear_slice (P := P) w t e ty z (TT.und _ _ ht rfl) (fun w => TT.run_zero he w) hzc hz1 g' off n c h0 (fun j hj => by rw [B.cell, List.getElem?_eq_getElem (by omega)]; rfl) (fun j hj => B.frozen _)
      have hst := run_storeCells_at P g' off t0 (List.replicate n z) 0 cs.toArray w B (by simpa using hfit) (by intro u hu; rw [List.eq_of_mem_replicate hu]; exact hz1)
      have hst2 := run_storeCells_cells (P := P) g' off (List.replicate n z) 0 w (by intro j hj; simp at hj; rw [Nat.add_zero, B.cell, List.getElem?_eq_getElem (by omega)]; rfl) (fun j hj => B.frozen _) (by intro u hu; rw [List.eq_of_mem_replicate hu]; exact hz1)
      simp only [Nat.add_zero] at hst hst2
      rw [hst] at hst2
      simp only [Result.ok.injEq, true_and] at hst2
      refine ⟨_, _, hrun, ?_⟩
      rw [← hst2]
      have e1 : (cs.take off ++ List.replicate n z ++ cs.drop (off + n)) = spl cs off (List.replicate n z) := by simp [spl]
      refine H.write hF (Fr.setRow _ _ _) ?_ hG
      have B2 := B.setRow (ds := spl cs off (List.replicate n z))
      simpa [spl] using B2
  obtain ⟨w', u, h1, h2⟩ := hrun
  refine ⟨w', u, ?_, h2⟩
  intro ρ o hρ ho hty
  subst hty
  simp only [execOp, ho, resolve, invoke, builtin, Sem.run_bind, Sem.run_pure, Result.andThen]
  have e1 : Array.map ρ #[x] = #[.slice (some ⟨g', off, none⟩) n c] := by simp [hρ _ _ hx]
  simp only [e1, h1]
/-- An operation that yields a value nobody asks for. -/
theorem so_exn (hg : wants l E g = some true) (hx : ∀ w, Sat b F w → ∃ w' u, Ex P E op ty w u w' ∧ Sat b G w') (h : SO P ro N l rest Q E ds b G) :
    SO P ro N l (⟨none, op, ty, pos, aft, g⟩ :: rest) Q E ds b F := ⟨fun w H a hk hds => by
  obtain ⟨w', u, h1, h2⟩ := hx w H
  unfold wpListIn
  rw [wanted_of (o := ⟨none, op, ty, pos, aft, g⟩) hk hg]
  simp only [if_true]
  have hr := h1 a.eval ⟨none, op, ty, pos, aft, g⟩ hk.hyp rfl rfl
  refine ⟨fun f _ => FR_fn ro f, ?_⟩
  rw [semAt_of_ok (by simp) hr]
  exact h.1 w' h2 _ hk.putNone hds⟩
theorem so_clear {t e g' t0 off n c s1 s2 s3 s4 : Nat} {z1 z : Value} {f1 f2 : List (Nat × Nat)} {dd : TypeDesc} {x : Operand} {cs : List Value} (k : Nat) (hg : wants l E g = some true) (hop : op = .call ⟨.builtin .clear, ⟨[x]⟩, ⟨[t]⟩⟩) (ht : tt t = some ⟨.slice e, s1, s2, z1, f1⟩) (he : tt e = some ⟨dd, s3, s4, z, f2⟩) (hz1 : z.oneCell' = true) (hx : ev E x = some (.slice (some ⟨g', off, none⟩) n c)) (hF : nth F k = some (pt g' t0 cs))
    (hG : setF F k (pt g' t0 (spl cs off (List.replicate n z))) = some G) (hfit : off + n ≤ cs.length) (h : SO P ro N l rest Q E ds b G) : SO P ro N l (⟨none, op, ty, pos, aft, g⟩ :: rest) Q E ds b F := by
  subst hop; exact so_exn hg (eu_clear k ht he hz1 hx hF hfit hG) h
/-- A call whose value nobody asks for. -/
theorem so_calln {f : FuncId} {args : List Value} {R : Value → List SP → Prop} (hg : wants l E g = some true) (hx : callOf E op = some (f, args)) [hb : Bodied P f] (hs : SC P f args b F R)
    (h : ∀ v F', R v F' → SO P ro N l rest Q E ds b F') : SO P ro N l (⟨none, op, ty, pos, aft, g⟩ :: rest) Q E ds b F := ⟨fun w H a hk hds => by
  unfold wpListIn
  rw [wanted_of (o := ⟨none, op, ty, pos, aft, g⟩) hk hg]
  simp only [if_true]
  have hr := ec_call (P := P) (ty := ty) (w := w) hx a.eval ⟨none, op, ty, pos, aft, g⟩ hk.hyp rfl rfl
  refine ⟨fun f _ => FR_fn ro f, ?_⟩
  rw [semAt_of_ok (by simp) hr, Oper.uponIn_enter]
  refine ⟨fun h => by simp [Fence.wide] at h, (calls_FR (hs w H)).mono ?_⟩
  rintro e w' ⟨v, F', rfl, h1, h2⟩
  exact (h v F' h1).1 w' h2 _ hk.putNone hds⟩
/-- A function without a body: the model's stand-in. -/
theorem ex_extern {f : FuncId} {args : List Value} {w w' : World} (hx : callOf E op = some (f, args)) (hr : (callFunc f args.toArray).run P w = .ok (.value v) w') : Ex P E op ty w v w' := by
  intro ρ o hρ ho _
  unfold callOf at hx
  split at hx
  · rename_i fo xs at'
    split at hx
    · rename_i k cs vs' h1 h2
      simp only [Option.some.injEq, Prod.mk.injEq] at hx
      obtain ⟨rfl, rfl⟩ := hx
      have e1 := hρ _ _ h1
      have e4 : xs.map ρ = vs'.toArray := by
        apply Array.ext'
        simp [evs_map hρ _ _ h2]
      have hc : vs'.toArray ++ cs = (vs' ++ cs.toList).toArray := by simp
      simp [execOp, ho, resolve, e1, e4, Deferred.ofValue, invoke, hc, hr]
    · cases hx
  · cases hx
theorem so_extern {f : FuncId} {args : List Value} (hg : wants l E g = some true) (hx : callOf E op = some (f, args)) (hd : Nat.blt d N = true) (hr : ∀ w, Sat b F w → (callFunc f args.toArray).run P w = .ok (.value v) w) (h : SO P ro N l rest Q ((d, v) :: E) ds b F) :
    SO P ro N l (⟨some d, op, ty, pos, aft, g⟩ :: rest) Q E ds b F := so_rd hg (fun w H => ex_extern hx (hr w H)) hd h
theorem run_cmp {w : World} {f : FuncId} {fn : Func} (hf : P.funcs[f]? = some fn) (hname : (fn.name == "runtime.NumGoroutine") = false) (hb : fn.body.isNone = true) (hn : Extern.findNext fn = none) (he : Extern.find fn = some Extern.BytealgCompare.compare) {va vb : Value} {xs ys : List Int}
    (ha : VL (Value.int .u8) w va xs) (hb' : VL (Value.int .u8) w vb ys) : (callFunc f #[va, vb]).run P w = .ok (.value (.int .i64 (Lib.compareBytes (xs.map fun n => UInt8.ofNat n.toNat) (ys.map fun n => UInt8.ofNat n.toNat)))) w := by
  rw [run_callFunc_extern hf hname hb hn he]
  change Result.andThen (Sem.run P (do pure (goInt (Extern.BytealgCompare.cmp (← Extern.Bytes.bytesOf va) (← Extern.Bytes.bytesOf vb)))) w) _ = _
  simp only [Sem.run_bind, run_bytesOf ha, run_bytesOf hb', Result.andThen, Sem.run_pure]
  rw [Lib.cmp_eq]
  rfl
theorem run_ixb {w : World} {f : FuncId} {fn : Func} (hf : P.funcs[f]? = some fn) (hname : (fn.name == "runtime.NumGoroutine") = false) (hb : fn.body.isNone = true) (hn : Extern.findNext fn = none) (he : Extern.find fn = some Extern.BytealgIndexByte.indexByte) {va : Value} {xs : List Int} {c : Int}
    (ha : VL (Value.int .u8) w va xs) : (callFunc f #[va, .int .u8 c]).run P w = .ok (.value (.int .i64 (Lib.indexByte (xs.map fun n => UInt8.ofNat n.toNat) c.toNat.toUInt8))) w := by
  rw [run_callFunc_extern hf hname hb hn he]
  have hs := Lib.run_indexByteString (P := P) (strOfNums xs) c w
  change Result.andThen (Sem.run P (do
    let b ← Extern.Bytes.bytesOf va
    let c ← Extern.Bytes.asByte (.int .u8 c)
    match (List.range b.size).find? fun i => b[i]! == c with
    | some i => pure (goInt i)
    | none => pure (goInt (-1))) w) _ = _
  change Sem.run P (do
    let b ← Extern.Bytes.bytesOf (.string (strOfNums xs))
    let c ← Extern.Bytes.asByte (.int .u8 c)
    match (List.range b.size).find? fun i => b[i]! == c with
    | some i => pure (goInt i)
    | none => pure (goInt (-1))) w = _ at hs
  have hb0 : (Extern.Bytes.bytesOf (.string (strOfNums xs))).run P w = .ok (strOfNums xs) w := rfl
  simp only [Sem.run_bind, hb0, Result.andThen] at hs
  simp only [Sem.run_bind, run_bytesOf ha, Result.andThen]
  rw [hs]; rfl
end
end Go.Eng
