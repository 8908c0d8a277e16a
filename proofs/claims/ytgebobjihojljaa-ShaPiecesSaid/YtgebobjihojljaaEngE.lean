/- The engine, part five: memory: what is kept from world to world, loads, stores, new blocks, append. Conditions: as part two. -/
import Derived.Test.YtgebobjihojljaaEngD
namespace Go.Eng
open Go Go.RowKit

/-! ## Worlds -/
/-- Of what lay in w all lies in w' as it did, but the blocks S. -/
structure Fr (S : Nat → Prop) (w w' : World) : Prop where
  os : w'.os = w.os
  tape : w'.tape = w.tape
  output : w'.output = w.output
  size : w.heap.size ≤ w'.heap.size
  keep : ∀ k, k < w.heap.size → ¬ S k → w'.heap[k]? = w.heap[k]?
def None (_ : Nat) : Prop := False
/-- All lies as it did. -/
abbrev Ext (w w' : World) : Prop := Fr None w w'

theorem Fr.refl (S : Nat → Prop) (w : World) : Fr S w w := ⟨rfl, rfl, rfl, Nat.le_refl _, fun _ _ _ => rfl⟩
theorem Fr.trans {S : Nat → Prop} {a b c : World} (h : Fr S a b) (k : Fr S b c) : Fr S a c :=
  ⟨k.os.trans h.os, k.tape.trans h.tape, k.output.trans h.output, Nat.le_trans h.size k.size, fun i hi hs => (k.keep i (Nat.lt_of_lt_of_le hi h.size) hs).trans (h.keep i hi hs)⟩
theorem Fr.mono {S T : Nat → Prop} {a b : World} (h : Fr S a b) (hs : ∀ k, k < a.heap.size → S k → T k) : Fr T a b :=
  ⟨h.os, h.tape, h.output, h.size, fun i hi ht => h.keep i hi (fun hS => ht (hs i hi hS))⟩
/-- Blocks that are new to a may turn. -/
theorem Fr.trans' {S T : Nat → Prop} {a b c : World} (h : Fr S a b) (k : Fr T b c) (ht : ∀ j, j < a.heap.size → T j → S j) : Fr S a c :=
  ⟨k.os.trans h.os, k.tape.trans h.tape, k.output.trans h.output, Nat.le_trans h.size k.size, fun i hi hs => (k.keep i (Nat.lt_of_lt_of_le hi h.size) (fun hT => hs (ht i hi hT))).trans (h.keep i hi hs)⟩
theorem Ext.fr {S : Nat → Prop} {a b : World} (h : Ext a b) : Fr S a b := h.mono fun _ _ hn => hn.elim
theorem Ext.blk {a b : World} (h : Ext a b) {k : Nat} (hk : k < a.heap.size) : b.heap[k]? = a.heap[k]? := h.keep k hk id
theorem Fr.below {S : Nat → Prop} {B : Nat} {a b : World} (h : Fr S a b) (hB : B ≤ a.heap.size) (hS : ∀ k, k < B → ¬ S k) : Below B a b :=
  ⟨h.os, h.tape, h.output, h.size, fun k hk => h.keep k (Nat.lt_of_lt_of_le hk hB) (hS k hk)⟩
theorem Ext.below {a b : World} (h : Ext a b) : Below a.heap.size a b := ⟨h.os, h.tape, h.output, h.size, fun k hk => h.keep k hk id⟩
theorem Ext.of_below {a b : World} (h : Below a.heap.size a b) : Ext a b := ⟨h.os, h.tape, h.output, h.size, fun k hk _ => h.block k hk⟩

theorem Fr.alloc {S : Nat → Prop} (w : World) (o : Obj) : Fr S w (w.alloc o) := ⟨rfl, rfl, rfl, by simp, fun k hk _ => Below.heap_alloc w o k hk⟩
theorem Fr.drew {S : Nat → Prop} (w : World) : Fr S w w.drew := ⟨rfl, rfl, rfl, Nat.le_refl _, fun _ _ _ => rfl⟩
theorem Fr.setCell (w : World) (a : Addr) (u : Value) : Fr (· = a.block) w (w.setCell a u) :=
  ⟨rfl, rfl, rfl, by simp, fun k _ hne => Below.heap_setCell w a u k hne⟩
theorem Fr.grown {w w' : World} {row : Option Nat} (h : w.grownBy w' row) : Fr (fun k => row = some k) w w' :=
  ⟨h.os, h.tape, h.output, h.size, fun k hk hne => h.block k hk (fun e => hne e.symm)⟩

theorem Fr.cell {S : Nat → Prop} {w w' : World} (h : Fr S w w') {a : Addr} (hb : a.block < w.heap.size) (hs : ¬ S a.block) : w'.cell? a = w.cell? a := World.cell?_of_block (h.keep _ hb hs)
theorem Fr.cell' {S : Nat → Prop} {w w' : World} (h : Fr S w w') {a : Addr} {v : Value} (hc : w.cell? a = some v) (hs : ¬ S a.block) : w'.cell? a = some v :=
  (h.cell (World.block_lt_of_cell? w a hc) hs).trans hc
theorem Ext.cell {w w' : World} (h : Ext w w') {a : Addr} {v : Value} (hc : w.cell? a = some v) : w'.cell? a = some v := Fr.cell' h hc id

/-! ## A block known whole -/
def Blk (w : World) (g : Nat) (t : TypeId) (cs : List Value) : Prop := w.heap[g]? = some (.cells cs.toArray t (0, 0))
section
variable {w w' : World} {g : Nat} {t : TypeId} {cs : List Value}
theorem Blk.lt (h : Blk w g t cs) : g < w.heap.size := by
  rcases Nat.lt_or_ge g w.heap.size with hlt | hge
  · exact hlt
  · unfold Blk at h; rw [Array.getElem?_eq_none hge] at h; cases h
theorem Blk.cell (h : Blk w g t cs) (i : Nat) : w.cell? ⟨g, i, none⟩ = cs[i]? := by
  rw [cell_of_row w g i cs.toArray t (0, 0) h]; simp
theorem Blk.frozen (h : Blk w g t cs) (i : Nat) : w.frozen? ⟨g, i, none⟩ = false := by
  unfold Blk at h
  simp [World.frozen?, h]
theorem Blk.new (w : World) (t : TypeId) (cs : List Value) : Blk (w.alloc (.cells cs.toArray t)) w.heap.size t cs := heap_alloc_new w _
theorem Blk.fr {S : Nat → Prop} (h : Blk w g t cs) (hf : Fr S w w') (hs : ¬ S g) : Blk w' g t cs := (hf.keep g h.lt hs).trans h
theorem Blk.ext (h : Blk w g t cs) (hf : Ext w w') : Blk w' g t cs := h.fr hf id
theorem Blk.set (h : Blk w g t cs) (i : Nat) (u : Value) : Blk (w.setCell ⟨g, i, none⟩ u) g t (cs.set i u) := by
  unfold Blk at h ⊢
  simp [World.setCell, Array.getElem?_modify, h]
end

/-! ## Operations on memory -/
section
variable {P : Program} {tt : Nat → Option TI} [TT P tt] {E : List (Nat × Value)} {ty : TypeId} {w : World}

theorem ex_box {t : Nat} {x : Operand} {v : Value} (hx : ev E x = some v) : Ex P E (.box t x) ty w (.pointer (some ⟨w.heap.size, 0, none⟩)) (w.alloc (.cells v.cells t)) := by
  intro ρ o hρ ho _
  simp [execOp, ho, Instr.box, newVar, newRow, hρ _ _ hx]

theorem ex_alloc {t : Nat} {i : TI} (ht : tt t = some i) : Ex P E (.alloc t) ty w (.pointer (some ⟨w.heap.size, 0, none⟩)) (w.alloc (.cells i.zero.cells t)) := by
  intro ρ o hρ ho _
  simp [execOp, ho, Instr.alloc, newVar, newRow, TT.run_zero ht]

theorem ex_load {t : Nat} {x : Operand} {i : TI} {a : Addr} {v : Value} (ht : tt t = some i) (hagg : aggT i.desc = false) (hx : ev E x = some (.pointer (some a))) (hc : w.cell? a = some v) :
    Ex P E (.load t x) ty w v w := by
  intro ρ o hρ ho _
  simp [execOp, ho, Instr.loadAt, Instr.sureAddr, loadVar, hρ _ _ hx, run_isAgg ht, hagg, hc]

theorem ex_loadN {t : Nat} {x : Operand} {i : TI} {b off : Nat} {cs : List Value} (ht : tt t = some i) (hagg : aggT i.desc = true) (hx : ev E x = some (.pointer (some ⟨b, off, none⟩)))
    (hn : cs.length = i.size) (hc : ∀ j, j < cs.length → w.cell? ⟨b, off + j, none⟩ = cs[j]?) :
    Ex P E (.load t x) ty w (.agg cs.toArray) w := by
  intro ρ o hρ ho _
  have key : ∀ (n k : Nat) (acc : Array Value), k + n = cs.length → (loadCellsFrom ⟨b, off, none⟩ k n acc).run P w = .ok (acc ++ (cs.drop k).toArray) w := by
    intro n
    induction n with
    | zero =>
      intro k acc h
      have : cs.drop k = [] := List.drop_eq_nil_of_le (by omega)
      simp [loadCellsFrom, this]
    | succ n ih =>
      intro k acc h
      have hk : k < cs.length := by omega
      have h1 := hc k hk
      rw [List.getElem?_eq_getElem hk] at h1
      have ha : (⟨b, off, none⟩ : Addr).add k = ⟨b, off + k, none⟩ := by unfold Addr.add; split <;> simp_all
      simp only [loadCellsFrom, Sem.run_bind, ha, run_load, h1, Result.andThen]
      rw [ih (k + 1) _ (by omega), List.drop_eq_getElem_cons hk]
      simp
  have := key cs.length 0 #[] (by omega)
  simp only [List.drop_zero, Array.empty_append] at this
  simp [execOp, ho, Instr.loadAt, Instr.sureAddr, loadVar, hρ _ _ hx, run_isAgg ht, hagg, loadCells, TT.run_size ht, ← hn, this]

theorem eu_store {t : Nat} {x y : Operand} {i : TI} {a : Addr} {u v : Value} (ht : tt t = some i) (hs : i.size = 1) (hx : ev E x = some (.pointer (some a))) (hy : ev E y = some v)
    (hv : v.oneCell' = true) (hc : w.cell? a = some u) (hf : w.frozen? a = false) :
    Eu P E (.store t x y) ty w (w.setCell a v) := by
  intro ρ o hρ ho _
  have hcells : v.cells = #[v] := by cases v <;> first | rfl | (simp [Value.oneCell'] at hv)
  have ha : a.add 0 = a := by simp [Addr.add]
  simp only [execOp, ho, Instr.storeAt, Instr.sureAddr, storeVar, hρ _ _ hx, hρ _ _ hy, Sem.run_bind, Sem.run_pure, Result.andThen, TT.run_size ht, hs, hcells]
  simp [storeCells, ha, run_store P w a v .plain hv, hc, hf]
end
end Go.Eng
