/- The engine, part one: stepping through the code of one function on partial knowledge of its slots. Conditions: none; it holds of every program. -/
import Derived.RangeFuncLeaves
import Derived.RangeFuncRecord
import Derived.RangeFuncCalls
import Derived.TacticsIn
import Derived.WalkKit
import Derived.OrdersIn
import Derived.Laws.StructEq
import Derived.Laws.OwnMore
import Derived.Laws.CopyRow
import Derived.ProofKit
import Derived.OpenShut
import Derived.ShutString
import Derived.ChangeOld
import Derived.Below
import Derived.Lib.SmallJoins
namespace Go.Eng
open Go

abbrev FR (ro : Option Nat) : Fence := { Fence.wide with round := ro }

theorem FR_fn (ro : Option Nat) (f : FuncId) : (FR ro).fn f := trivial
def look : List (Nat × Value) → Nat → Option Value
 | [], _ => none
 | (j, v) :: E, i => match Nat.beq j i with
  | true => some v
  | false => look E i

def Kn (N : Nat) (E : List (Nat × Value)) (a : Act) : Prop := a.tmps.size = N ∧ ∀ i v, look E i = some v → a.tmps[i]? = some v

theorem Kn.put {N : Nat} {E : List (Nat × Value)} {a : Act} (h : Kn N E a) {d : Nat} {v : Value} (hd : Nat.blt d N = true) : Kn N ((d, v) :: E) (a.put (some d) v) := by
 have hd' : d < N := Nat.le_of_ble_eq_true hd
 refine ⟨by simp [Act.put, h.1], fun i u hi => ?_⟩
 simp only [look] at hi
 split at hi
 ·rename_i hb
  have := Nat.eq_of_beq_eq_true hb
  subst this
  cases hi
  have hlt : d < a.tmps.size := by rw [h.1]; exact hd'
  simp [Act.put, hlt]
 ·rename_i hb
  have hne : d ≠ i := by
   intro e
   subst e
   have : Nat.beq d d = true := Nat.beq_refl d
   rw [this] at hb; cases hb
  simp only [Act.put]
  rw [Array.getElem?_setIfInBounds_ne hne]
  exact h.2 i u hi

theorem Kn.putNone {N : Nat} {E : List (Nat × Value)} {a : Act} (h : Kn N E a) {v : Value} : Kn N E (a.put none v) := h

def Sub : List (Nat × Value) → List (Nat × Value) → Prop
 | [], _ => True
 | (i, v) :: E', E => look E i = some v ∧ Sub E' E

theorem Sub.look {E' E : List (Nat × Value)} (h : Sub E' E) : ∀ i v, look E' i = some v → look E i = some v := by
 induction E' with
 | nil => intro i v hi; simp [Eng.look] at hi
 | cons p E' ih =>
  obtain ⟨j, u⟩ := p
  intro i v hi
  simp only [Eng.look] at hi
  split at hi
  ·rename_i hb
   have := Nat.eq_of_beq_eq_true hb
   subst this
   cases hi
   exact h.1
  ·exact ih h.2 i v hi

theorem Kn.sub {N : Nat} {E' E : List (Nat × Value)} {a : Act} (hs : Sub E' E) (h : Kn N E a) : Kn N E' a := ⟨h.1, fun i v hi => h.2 i v (hs.look i v hi)⟩

def ev (E : List (Nat × Value)) : Operand → Option Value
 | .tmp t => look E t
 | .const v => some v
 | .global g => some (.pointer (some ⟨g, 0, none⟩))
 | .func f => some (.func (.func f) #[] #[])

theorem Kn.ev {N : Nat} {E : List (Nat × Value)} {a : Act} (h : Kn N E a) {x : Operand} {v : Value} (hx : ev E x = some v) : a.eval x = v := by
 cases x with
 | tmp t =>
  have := h.2 t v hx
  simp [Act.eval, Array.getD_eq_getD_getElem?, this]
 | const u => simpa [Eng.ev, Act.eval] using hx
 | global g => simpa [Eng.ev, Act.eval] using hx
 | func f => simpa [Eng.ev, Act.eval] using hx

def evs (E : List (Nat × Value)) : List Operand → Option (List Value)
 | [] => some []
 | x :: xs => match ev E x, evs E xs with
  | some v, some vs => some (v :: vs)
  | _, _ => none

section
variable {P : Program} {ro : Option Nat} {N : Nat} {Q : Exit → Act → World → Prop} {E : List (Nat × Value)} {ds : List Deferred} {w : World}

def CW (P : Program) (ro : Option Nat) (N : Nat) (c : Code) (Q : Exit → Act → World → Prop) (E : List (Nat × Value)) (ds : List Deferred) (w : World) : Prop :=
 ∀ a, Kn N E a → a.defers = ds → c.wpIn (FR ro) 0 P Q a w

def PN (N : Nat) (Q : Exit → Act → World → Prop) (e : Exit) (E : List (Nat × Value)) (ds : List Deferred) (w : World) : Prop :=
 ∀ a, Kn N E a → a.defers = ds → Q e a w

def Then (P : Program) (ro : Option Nat) (c : Code) (Q : Exit → Act → World → Prop) : Exit → Act → World → Prop := Exit.then (c.wpIn (FR ro) 0 P Q) Q

theorem cw_seq {x y : Code} (h : CW P ro N x (Then P ro y Q) E ds w) : CW P ro N (.seq x y) Q E ds w := fun a hk hd => wpIn_seq (h a hk hd)
theorem pn_then {y : Code} (h : CW P ro N y Q E ds w) : PN N (Then P ro y Q) .normal E ds w := fun a hk hd => h a hk hd
theorem pn_then_ret {y : Code} (h : PN N Q .ret E ds w) : PN N (Then P ro y Q) .ret E ds w := fun a hk hd => h a hk hd
theorem pn_then_exit {y : Code} {i : Nat} (h : PN N Q (.exit i) E ds w) : PN N (Then P ro y Q) (.exit i) E ds w := fun a hk hd => h a hk hd
theorem cw_block {x : Code} {i : Nat} (h : CW P ro N x (Exit.inBlock i Q) E ds w) : CW P ro N (.block i x) Q E ds w := fun a hk hd => wpIn_block (h a hk hd)
theorem pn_block {i : Nat} (h : PN N Q .normal E ds w) : PN N (Exit.inBlock i Q) .normal E ds w := fun a hk hd => h a hk hd
theorem pn_block_ret {i : Nat} (h : PN N Q .ret E ds w) : PN N (Exit.inBlock i Q) .ret E ds w := fun a hk hd => h a hk hd
theorem pn_block_exit {i : Nat} (h : PN N Q .normal E ds w) : PN N (Exit.inBlock i Q) (.exit i) E ds w := fun a hk hd => by
 simp only [Exit.inBlock, if_true]; exact h a hk hd
theorem pn_block_other {i j : Nat} (hij : Nat.beq j i = false) (h : PN N Q (.exit j) E ds w) : PN N (Exit.inBlock i Q) (.exit j) E ds w := fun a hk hd => by
 have : j ≠ i := by intro e; subst e; rw [Nat.beq_refl] at hij; cases hij
 simp only [Exit.inBlock, if_neg this]; exact h a hk hd
theorem cw_skip (h : PN N Q .normal E ds w) : CW P ro N .skip Q E ds w := fun a hk hd => wpIn_skip (h a hk hd)
theorem cw_ret (h : PN N Q .ret E ds w) : CW P ro N .ret Q E ds w := fun a hk hd => wpIn_ret (h a hk hd)
theorem cw_exit {i : Nat} (h : PN N Q (.exit i) E ds w) : CW P ro N (.exit i) Q E ds w := fun a hk hd => wpIn_exit (h a hk hd)
theorem cw_cond {c : Operand} {x y : Code} {b : Bool} (hc : ev E c = some (.bool b)) (ht : b = true → CW P ro N x Q E ds w) (hf : b = false → CW P ro N y Q E ds w) :
  CW P ro N (.cond c x y) Q E ds w := fun a hk hd => by
 cases b with
 | true => exact wpIn_cond_true (hk.ev hc) (ht rfl a hk hd)
 | false => exact wpIn_cond_false (hk.ev hc) (hf rfl a hk hd)
theorem cw_cond_t {c : Operand} {x y : Code} (hc : ev E c = some (.bool true)) (ht : CW P ro N x Q E ds w) : CW P ro N (.cond c x y) Q E ds w :=
 fun a hk hd => wpIn_cond_true (hk.ev hc) (ht a hk hd)
theorem cw_cond_f {c : Operand} {x y : Code} (hc : ev E c = some (.bool false)) (ht : CW P ro N y Q E ds w) : CW P ro N (.cond c x y) Q E ds w :=
 fun a hk hd => wpIn_cond_false (hk.ev hc) (ht a hk hd)
theorem pn_sub {e : Exit} {E' : List (Nat × Value)} (hs : Sub E' E) (h : PN N Q e E' ds w) : PN N Q e E ds w := fun a hk hd => h a (hk.sub hs) hd

def Rnd {G : Type} (N : Nat) (Eg : G → List (Nat × Value)) (J : G → World → Prop) (μ : G → Nat) (g : G) (ds : List Deferred) (a' : Act) (w' : World) : Prop :=
 ∃ g', Kn N (Eg g') a' ∧ a'.defers = ds ∧ J g' w' ∧ μ g' < μ g

theorem cw_loop {G : Type} {c : Code} (Eg : G → List (Nat × Value)) (J : G → World → Prop) (μ : G → Nat)
  (h0 : ∃ g, Sub (Eg g) E ∧ J g w)
  (hr : ∀ g w, J g w → CW P ro N c (Exit.then (Rnd N Eg J μ g ds) Q) (Eg g) ds w) :
  CW P ro N (.loop c) Q E ds w := by
 intro a hk hd b k cs hro hb hroom
 have key : ∀ n g, μ g < n → ∀ a w, Kn N (Eg g) a → a.defers = ds → J g w →
   ∃ e a' w', Q e a' w' ∧ ArrivesIn (Machine.fenced P (FR ro)) P (lone (b.atR a (.code c :: .inLoop c :: k)) cs w) b k cs e a' w' := by
  intro n
  induction n with
  | zero => intro g h; omega
  | succ n ih =>
   intro g hg a w hk hd hJ
   obtain ⟨e, a₁, w₁, hq, harr⟩ := hr g w hJ a hk hd b (.inLoop c :: k) cs hro hb hroom
   cases e with
   | normal =>
    obtain ⟨g', hk', hd', hJ', hlt⟩ := hq
    obtain ⟨e₂, a₂, w₂, hq₂, harr₂⟩ := ih g' (by omega) a₁ w₁ hk' hd' hJ'
    exact ⟨e₂, a₂, w₂, hq₂, .of_steps (StepsIn.trans harr (.one (fenced_calm hb hroom rfl) stepR_inLoop)) harr₂⟩
   | exit id => exact ⟨_, a₁, w₁, hq, .pass (x := .inLoop c) rfl (fun _ _ => .inl (by simp)) harr⟩
   | goto l => exact ⟨_, a₁, w₁, hq, .pass (x := .inLoop c) rfl (fun _ _ => .inl (by simp)) harr⟩
   | ret => exact ⟨_, a₁, w₁, hq, .pass (x := .inLoop c) rfl (fun _ _ => .inl (by simp)) harr⟩
   | panic ch => exact ⟨_, a₁, w₁, hq, .pass (x := .inLoop c) rfl (fun _ _ => .inl (by simp)) harr⟩
   | outgrown => exact ⟨_, a₁, w₁, hq, .pass (x := .inLoop c) rfl (fun _ _ => .inl (by simp)) harr⟩
 obtain ⟨g, hs, hJ⟩ := h0
 obtain ⟨e₂, a₂, w₂, hq₂, harr₂⟩ := key (μ g + 1) g (Nat.lt_succ_self _) a w (hk.sub hs) hd hJ
 exact ⟨e₂, a₂, w₂, hq₂, .of_steps (.one (fenced_calm hb hroom rfl) stepR_loop) harr₂⟩
theorem pn_round {G : Type} {Eg : G → List (Nat × Value)} {J : G → World → Prop} {μ : G → Nat} {g : G} (g' : G) (hs : Sub (Eg g') E) (hJ : J g' w) (hlt : μ g' < μ g) :
  PN N (Exit.then (Rnd N Eg J μ g ds) Q) .normal E ds w :=
 fun _ hk hd => ⟨g', hk.sub hs, hd, hJ, hlt⟩
theorem pn_loop_ret {K : Act → World → Prop} (h : PN N Q .ret E ds w) : PN N (Exit.then K Q) .ret E ds w := fun a hk hd => h a hk hd
theorem pn_loop_exit {K : Act → World → Prop} {i : Nat} (h : PN N Q (.exit i) E ds w) : PN N (Exit.then K Q) (.exit i) E ds w := fun a hk hd => h a hk hd
end
end Go.Eng
namespace Go.Eng
open Go

structure TI where
 desc : TypeDesc
 size : Nat
 bytes : Nat
 zero : Value
 flds : List (Nat × Nat) := []

def isSt : TypeDesc → Bool
 | .struct _ => true
 | _ => false

class TT (P : Program) (tt : outParam (Nat → Option TI)) : Prop where
 und : ∀ t i, tt t = some i → isSt i.desc = false → P.underlying t = some i.desc
 st : ∀ t i, tt t = some i → isSt i.desc = true → ∃ fs, P.underlying t = some (.struct fs) ∧ fs.toList.map (fun f => (f.type, f.offset)) = i.flds
 info : ∀ t i, tt t = some i → ∃ j, P.info? t = some j ∧ j.size = i.size ∧ j.bytes = i.bytes ∧ j.zero = some i.zero

section
variable {P : Program} {tt : Nat → Option TI} [hTT : TT P tt]
theorem TT.run_und {t : Nat} {i : TI} (h : tt t = some i) (hn : isSt i.desc = false) (w : World) : (underlying t).run P w = .ok i.desc w := by
 simp [underlying, TT.und (P := P) t i h hn]
theorem TT.run_st {t : Nat} {i : TI} (h : tt t = some i) (hn : isSt i.desc = true) : ∃ fs : Array Field, (∀ w, (underlying t).run P w = .ok (.struct fs) w) ∧ fs.toList.map (fun f => (f.type, f.offset)) = i.flds := by
 obtain ⟨fs, h1, h2⟩ := TT.st (P := P) t i h hn
 exact ⟨fs, fun w => by simp [underlying, h1], h2⟩
theorem TT.run_size {t : Nat} {i : TI} (h : tt t = some i) (w : World) : (sizeOf t).run P w = .ok i.size w := by
 obtain ⟨j, hj, h1, _⟩ := TT.info (P := P) t i h
 simp [sizeOf, typeInfo, hj, h1]
theorem TT.run_zero {t : Nat} {i : TI} (h : tt t = some i) (w : World) : (zeroValue t).run P w = .ok i.zero w := by
 obtain ⟨j, hj, _, _, h1⟩ := TT.info (P := P) t i h
 simp [zeroValue, typeInfo, hj, h1]

def lookT : List (Nat × TI) → Nat → Option TI
 | [], _ => none
 | (j, v) :: T, i => match Nat.beq j i with
  | true => some v
  | false => lookT T i
def good (P : Program) (p : Nat × TI) : Prop :=
 (match isSt p.2.desc with
  | true => (P.underlying p.1).map (fun d => match d with | .struct fs => fs.toList.map (fun f => (f.type, f.offset)) | _ => [(0, 99999)]) = some p.2.flds
  | false => P.underlying p.1 = some p.2.desc) ∧
 (P.info? p.1).map (fun j => (j.size, j.bytes, j.zero)) = some (p.2.size, p.2.bytes, some p.2.zero)
def stf (d : TypeDesc) : List (Nat × Nat) := match d with
 | .struct fs => fs.toList.map (fun f => (f.type, f.offset))
 | _ => [(0, 99999)]
theorem good_d {P : Program} {k : Nat} {i : TI} (hn : isSt i.desc = false) (h1 : P.underlying k = some i.desc) (h2 : (P.info? k).map (fun j => (j.size, j.bytes, j.zero)) = some (i.size, i.bytes, some i.zero)) : good P (k, i) := by
 unfold good
 simp only [hn]
 exact ⟨h1, h2⟩
theorem good_s {P : Program} {k : Nat} {i : TI} (hn : isSt i.desc = true) (h1 : (P.underlying k).map stf = some i.flds) (h2 : (P.info? k).map (fun j => (j.size, j.bytes, j.zero)) = some (i.size, i.bytes, some i.zero)) : good P (k, i) := by
 unfold good
 simp only [hn]
 exact ⟨h1, h2⟩
theorem lookT_mem {T : List (Nat × TI)} {t : Nat} {i : TI} (h : lookT T t = some i) : (t, i) ∈ T := by
 induction T with
 | nil => simp [lookT] at h
 | cons p T ih =>
  obtain ⟨j, v⟩ := p
  simp only [lookT] at h
  split at h
  ·rename_i hb
   have := Nat.eq_of_beq_eq_true hb
   subst this
   cases h
   exact List.mem_cons_self
  ·exact List.mem_cons_of_mem _ (ih h)
theorem TT.of_list {T : List (Nat × TI)} (h : ∀ p ∈ T, good P p) (hz : ∀ p ∈ T, p.2.flds ≠ [(0, 99999)]) : TT P (lookT T) := by
 refine ⟨fun t i hi hn => ?_, fun t i hi hn => ?_, fun t i hi => ?_⟩
 ·have hg := (h _ (lookT_mem hi)).1
  simp only [hn] at hg
  exact hg
 ·have hg := (h _ (lookT_mem hi)).1
  have hz' := hz _ (lookT_mem hi)
  simp only [hn] at hg
  cases hd : P.underlying t with
  | none => simp [hd] at hg
  | some d =>
   simp only [hd, Option.map_some, Option.some.injEq] at hg
   cases d <;> first | exact ⟨_, rfl, hg⟩ | exact absurd hg.symm hz'
 ·have hg := (h _ (lookT_mem hi)).2
  cases hd : P.info? t with
  | none => simp [hd] at hg
  | some j =>
   simp only [hd, Option.map_some, Option.some.injEq, Prod.mk.injEq] at hg
   exact ⟨j, rfl, hg.1, hg.2.1, hg.2.2⟩
end

def nth {α : Type} : List α → Nat → Option α
 | [], _ => none
 | x :: _, 0 => some x
 | _ :: l, n + 1 => nth l n

theorem nth_eq {α : Type} (l : List α) (n : Nat) : nth l n = l[n]? := by
 induction l generalizing n with
 | nil => simp [nth]
 | cons x l ih => cases n with
  | zero => simp [nth]
  | succ n => simp [nth, ih]

def bqq : Bool → Bool → Bool
 | true, b => b
 | false, b => !b

def wants (l : List Oper) (E : List (Nat × Value)) : Option (Nat × Bool) → Option Bool
 | none => some true
 | some (j, b) => match nth l j with
  | some o => match o.dst with
   | some d => match look E d with
    | some (.bool c) => some (bqq c b)
    | some (.tuple _) => some false
    | _ => none
   | none => none
  | none => none

theorem wanted_of {l : List Oper} {E : List (Nat × Value)} {N : Nat} {a : Act} {o : Oper} {b : Bool} (hk : Kn N E a) (h : wants l E o.guard = some b) :
  Region.wanted o (yielded l.toArray a.tmps) = b := by
 unfold wants at h
 unfold Region.wanted
 split at h
 ·rename_i hg
  simp only [hg]
  simpa using h
 ·rename_i j wb hg
  simp only [hg]
  split at h
  ·rename_i o' ho
   split at h
   ·rename_i d hd
    split at h
    ·rename_i c hc
     have hc' := hk.2 _ _ hc
     rw [nth_eq] at ho
     simp only [yielded, List.getElem?_toArray, ho, Option.bind_some, hd, hc']
     simp only [Option.some.injEq] at h
     subst h
     cases c <;> cases wb <;> rfl
    ·rename_i c hc
     have hc' := hk.2 _ _ hc
     rw [nth_eq] at ho
     simp only [yielded, List.getElem?_toArray, ho, Option.bind_some, hd, hc']
     simp only [Option.some.injEq] at h
     subst h
     cases wb <;> rfl
    ·cases h
   ·cases h
  ·cases h

def Ex (P : Program) (E : List (Nat × Value)) (op : Op) (ty : TypeId) (w : World) (v : Value) (w' : World) : Prop :=
 ∀ (ρ : Operand → Value) (o : Oper), (∀ x u, ev E x = some u → ρ x = u) → o.op = op → o.type = ty → (execOp ρ o).run P w = .ok (.value v) w'
def Eu (P : Program) (E : List (Nat × Value)) (op : Op) (ty : TypeId) (w : World) (w' : World) : Prop :=
 ∀ (ρ : Operand → Value) (o : Oper), (∀ x u, ev E x = some u → ρ x = u) → o.op = op → o.type = ty → (execOp ρ o).run P w = .ok .skip w'
def Ec (P : Program) (E : List (Nat × Value)) (op : Op) (ty : TypeId) (w : World) (f : FuncId) (args : Array Value) : Prop :=
 ∀ (ρ : Operand → Value) (o : Oper), (∀ x u, ev E x = some u → ρ x = u) → o.op = op → o.type = ty → (execOp ρ o).run P w = .ok (.enter f args) w
def Pu (P : Program) (E : List (Nat × Value)) (op : Op) (ty : TypeId) (v : Value) : Prop := ∀ w, Ex P E op ty w v w

theorem Kn.hyp {N : Nat} {E : List (Nat × Value)} {a : Act} (h : Kn N E a) : ∀ x u, Eng.ev E x = some u → a.eval x = u := fun _ _ hx => h.ev hx

theorem semAt_of_ok {P : Program} {ro : Option Nat} {ρ : Operand → Value} {o : Oper} {w w' : World} {r : Next} (hr : ∀ d, r ≠ .defer d) (h : (execOp ρ o).run P w = .ok r w') :
  (o.semAt ro ρ).run P w = .ok r w' := by
 rw [Oper.semAt_eq]
 ·exact h
 ·intro c hc
  simp only [execOp, hc, Sem.run_bind] at h
  cases hx : (resolve ρ c o.type).run P w with
  | ok d w1 => rw [hx] at h; simp [Result.andThen] at h; exact hr _ h.1.symm
  | halt e w1 => rw [hx] at h; simp [Result.andThen] at h

section
variable {P : Program} {ro : Option Nat} {N : Nat} {l rest : List Oper} {Q : Exit → Act → World → Prop} {E : List (Nat × Value)} {ds : List Deferred} {w w' : World}
 {d : Nat} {op : Op} {ty : TypeId} {pos : String} {aft : Array Edge} {g : Option (Nat × Bool)} {v : Value}

def OW (P : Program) (ro : Option Nat) (N : Nat) (l rest : List Oper) (Q : Exit → Act → World → Prop) (E : List (Nat × Value)) (ds : List Deferred) (w : World) : Prop :=
 ∀ a, Kn N E a → a.defers = ds → wpListIn (FR ro) 0 P l.toArray Q rest a w

theorem cw_region {i : Nat} (h : OW P ro N l l Q E ds w) : CW P ro N (.region i l.toArray false) Q E ds w := fun a hk hd => wpIn_region_lit (h a hk hd)
theorem ow_nil (h : PN N Q .normal E ds w) : OW P ro N l [] Q E ds w := fun a hk hd => h a hk hd

theorem ow_skip (hg : wants l E g = some false) (hd : Nat.blt d N = true) (h : OW P ro N l rest Q ((d, undef) :: E) ds w) : OW P ro N l (⟨some d, op, ty, pos, aft, g⟩ :: rest) Q E ds w := by
 intro a hk hds
 unfold wpListIn
 rw [wanted_of (o := ⟨some d, op, ty, pos, aft, g⟩) hk hg]
 simp only [Bool.false_eq_true, if_false]
 exact ⟨fun f _ => FR_fn ro f, h _ (hk.put hd) hds⟩

theorem ow_ex (hg : wants l E g = some true) (hx : Ex P E op ty w v w') (hd : Nat.blt d N = true) (h : OW P ro N l rest Q ((d, v) :: E) ds w') :
  OW P ro N l (⟨some d, op, ty, pos, aft, g⟩ :: rest) Q E ds w := by
 intro a hk hds
 unfold wpListIn
 rw [wanted_of (o := ⟨some d, op, ty, pos, aft, g⟩) hk hg]
 simp only [if_true]
 have hr := hx a.eval ⟨some d, op, ty, pos, aft, g⟩ hk.hyp rfl rfl
 refine ⟨fun f _ => FR_fn ro f, ?_⟩
 rw [semAt_of_ok (by simp) hr]
 exact h _ (hk.put hd) hds

theorem ow_eu (hg : wants l E g = some true) (hx : Eu P E op ty w w') (h : OW P ro N l rest Q E ds w') :
  OW P ro N l (⟨none, op, ty, pos, aft, g⟩ :: rest) Q E ds w := by
 intro a hk hds
 unfold wpListIn
 rw [wanted_of (o := ⟨none, op, ty, pos, aft, g⟩) hk hg]
 simp only [if_true]
 have hr := hx a.eval ⟨none, op, ty, pos, aft, g⟩ hk.hyp rfl rfl
 refine ⟨fun f _ => FR_fn ro f, ?_⟩
 rw [semAt_of_ok (by simp) hr]
 exact h _ hk.putNone hds

theorem calls_FR {f : FuncId} {args : Array Value} {R : Ending → World → Prop} (h : Calls P f args w R) : CallsIn (FR ro) 0 P f args w R :=
 show CallsIn Fence.wide 0 P f args w R from callsIn_wide.2 h
theorem calls_of_FR {n : Nat} {f : FuncId} {args : Array Value} {R : Ending → World → Prop} (h : CallsIn (FR ro) n P f args w R) : Calls P f args w R :=
 callsIn_wide.1 (show CallsIn Fence.wide n P f args w R from h)

theorem ow_call {f : FuncId} {args : Array Value} (hg : wants l E g = some true) (hx : Ec P E op ty w f args) (hd : Nat.blt d N = true)
  (h : Calls P f args w fun e w' => ∃ v, e = .returned v ∧ OW P ro N l rest Q ((d, v) :: E) ds w') :
  OW P ro N l (⟨some d, op, ty, pos, aft, g⟩ :: rest) Q E ds w := by
 intro a hk hds
 unfold wpListIn
 rw [wanted_of (o := ⟨some d, op, ty, pos, aft, g⟩) hk hg]
 simp only [if_true]
 have hr := hx a.eval ⟨some d, op, ty, pos, aft, g⟩ hk.hyp rfl rfl
 refine ⟨fun f _ => FR_fn ro f, ?_⟩
 rw [semAt_of_ok (by simp) hr, Oper.uponIn_enter]
 refine ⟨fun h => by simp [Fence.wide] at h, (calls_FR h).mono ?_⟩
 rintro e w' ⟨v, rfl, h'⟩
 exact h' _ (hk.put hd) hds

theorem ow_pu (hg : wants l E g = some true) (hx : Pu P E op ty v) (hd : Nat.blt d N = true) (h : OW P ro N l rest Q ((d, v) :: E) ds w) :
  OW P ro N l (⟨some d, op, ty, pos, aft, g⟩ :: rest) Q E ds w := ow_ex hg (hx w) hd h
end

def callOf (E : List (Nat × Value)) : Op → Option (FuncId × List Value)
 | .call { callee := .value f, args := xs, argTypes := _ } => match ev E f, evs E xs.toList with
  | some (.func (.func k) ⟨fs⟩ cs), some vs => some (k, fs ++ (vs ++ cs.toList))
  | _, _ => none
 | _ => none

class Bodied (P : Program) (f : FuncId) : Prop where
 run : ∀ args w, (callFunc f args).run P w = .ok (.enter f args) w

theorem bodied_of {P : Program} {f : FuncId} {fn : Func} {c : Code} (hf : P.funcs[f]? = some fn) (hname : (fn.name == "runtime.NumGoroutine") = false) (hb : fn.body = some c) : Bodied P f :=
 ⟨fun args w => by
  have hn : ¬ fn.name = "runtime.NumGoroutine" := by simpa using hname
  simp [callFunc, hf, hn, hb]⟩

theorem ec_call {P : Program} {E : List (Nat × Value)} {op : Op} {ty : TypeId} {w : World} {f : FuncId} {vs : List Value} (h : callOf E op = some (f, vs)) [hb : Bodied P f] :
  Ec P E op ty w f vs.toArray := by
 intro ρ o hρ ho _
 unfold callOf at h
 split at h
 ·rename_i fo xs at'
  split at h
  ·rename_i k fs cs vs' h1 h2
   simp only [Option.some.injEq, Prod.mk.injEq] at h
   obtain ⟨rfl, rfl⟩ := h
   have e1 := hρ _ _ h1
   have e2 : ∀ (xs : List Operand) (vs : List Value), evs E xs = some vs → xs.map ρ = vs := by
    intro xs
    induction xs with
    | nil => intro vs hx; simp [evs] at hx; simp [hx]
    | cons x xs ih =>
     intro vs hx
     simp only [evs] at hx
     split at hx
     ·rename_i v vs' h1 h2
      cases hx
      simp [hρ _ _ h1, ih _ h2]
     ·cases hx
   have e3 := e2 _ _ h2
   have e4 : xs.map ρ = vs'.toArray := by
    apply Array.ext'
    simp [e3]
   have hc : (⟨fs⟩ : Array Value) ++ vs'.toArray ++ cs = (fs ++ (vs' ++ cs.toList)).toArray := by
    apply Array.ext'
    simp
   simp only [execOp, ho, resolve, e1, e4, Deferred.ofValue, invoke, Sem.run_bind, Sem.run_pure, Result.andThen, hc, hb.run]
  ·cases h
 ·cases h

theorem sr {P : Program} {ro : Option Nat} {N : Nat} {l : List Oper} {Q : Exit → Act → World → Prop} {E : List (Nat × Value)} {ds : List Deferred} {w : World} {i : Nat} {y : Code}
  (h : OW P ro N l l (Then P ro y Q) E ds w) : CW P ro N (.seq (.region i l.toArray false) y) Q E ds w := cw_seq (cw_region h)
theorem ss {P : Program} {ro : Option Nat} {N : Nat} {Q : Exit → Act → World → Prop} {E : List (Nat × Value)} {ds : List Deferred} {w : World} {x y z : Code}
  (h : CW P ro N (.seq x y) (Then P ro z Q) E ds w) : CW P ro N (.seq (.seq x y) z) Q E ds w := cw_seq h
theorem on {P : Program} {ro : Option Nat} {N : Nat} {l : List Oper} {Q : Exit → Act → World → Prop} {E : List (Nat × Value)} {ds : List Deferred} {w : World} {y : Code}
  (h : CW P ro N y Q E ds w) : OW P ro N l [] (Then P ro y Q) E ds w := ow_nil (pn_then h)

section
variable {P : Program} {ro : Option Nat} {N : Nat} {l rest : List Oper} {Q : Exit → Act → World → Prop} {E : List (Nat × Value)} {ds : List Deferred} {w : World} {c : Code} {e : Exit}
theorem Kn.know {a : Act} {u v : Value} {i : Nat} (hk : Kn N E a) (hl : look E i = some u) (he : u = v) : Kn N ((i, v) :: E) a := by
 subst he
 refine ⟨hk.1, fun j x hj => ?_⟩
 simp only [look] at hj
 split at hj
 ·rename_i hb
  have := Nat.eq_of_beq_eq_true hb
  subst this
  cases hj
  exact hk.2 _ _ hl
 ·exact hk.2 _ _ hj
theorem o_know (i : Nat) {u : Value} (v : Value) (hl : look E i = some u) (he : u = v) (h : OW P ro N l rest Q ((i, v) :: E) ds w) : OW P ro N l rest Q E ds w := fun a hk hd => h a (hk.know hl he) hd
theorem o_split (i : Nat) {b : Bool} (hl : look E i = some (.bool b)) (ht : b = true → OW P ro N l rest Q ((i, .bool true) :: E) ds w) (hf : b = false → OW P ro N l rest Q ((i, .bool false) :: E) ds w) : OW P ro N l rest Q E ds w := by
 cases b with
 | true => exact o_know i _ hl rfl (ht rfl)
 | false => exact o_know i _ hl rfl (hf rfl)
theorem o_if (i : Nat) {p : Prop} [Decidable p] (hl : look E i = some (.bool (decide p))) (ht : p → OW P ro N l rest Q ((i, .bool true) :: E) ds w) (hf : ¬ p → OW P ro N l rest Q ((i, .bool false) :: E) ds w) : OW P ro N l rest Q E ds w :=
 o_split i hl (fun h => ht (of_decide_eq_true h)) (fun h => hf (of_decide_eq_false h))
theorem cw_know (i : Nat) {u : Value} (v : Value) (hl : look E i = some u) (he : u = v) (h : CW P ro N c Q ((i, v) :: E) ds w) : CW P ro N c Q E ds w := fun a hk hd => h a (hk.know hl he) hd
theorem cw_if {x y : Code} {o : Operand} {p : Prop} [Decidable p] (hc : ev E o = some (.bool (decide p))) (ht : p → CW P ro N x Q E ds w) (hf : ¬ p → CW P ro N y Q E ds w) :
  CW P ro N (.cond o x y) Q E ds w := cw_cond hc (fun h => ht (of_decide_eq_true h)) (fun h => hf (of_decide_eq_false h))
end

def ents : Nat → List Value → List (Nat × Value)
 | _, [] => []
 | k, v :: vs => (k, v) :: ents (k + 1) vs

theorem look_ents : ∀ (vs : List Value) (k i : Nat) (v : Value), look (ents k vs) i = some v → k ≤ i ∧ vs[i - k]? = some v := by
 intro vs
 induction vs with
 | nil => intro k i v h; simp [ents, look] at h
 | cons u vs ih =>
  intro k i v h
  simp only [ents, look] at h
  split at h
  ·rename_i hb
   have := Nat.eq_of_beq_eq_true hb
   subst this
   cases h
   simp
  ·obtain ⟨h1, h2⟩ := ih _ _ _ h
   refine ⟨by omega, ?_⟩
   rw [show i - k = (i - (k + 1)) + 1 from by omega]
   simpa using h2

theorem enter {P : Program} {f : FuncId} {fn : Func} {c : Code} {args : List Value} {w : World} {R : Ending → World → Prop} (hf : P.funcs[f]? = some fn) (hb : fn.body = some c)
  (hn : Nat.ble args.length fn.ntmps = true) (h : CW P none fn.ntmps c (bodyPost P fn R) (ents 0 args) [] w) : Calls P f args.toArray w R := by
 refine calls_of_FR (ro := none) (n := 0) (callsIn_of_wp hf hb trivial ?_ rfl)
 have hn := Nat.le_of_ble_eq_true hn
 refine h _ ⟨by simp; omega, fun i v hi => ?_⟩ rfl
 obtain ⟨_, h2⟩ := look_ents _ _ _ _ hi
 simp only [Nat.sub_zero] at h2
 have hlt : i < args.length := (List.getElem?_eq_some_iff.1 h2).1
 rw [List.getElem?_eq_getElem hlt] at h2
 simp only [Option.some.injEq] at h2
 simp [Array.getElem?_append, hlt, h2]
theorem enter0 {P : Program} {f : FuncId} {fn : Func} {c : Code} {w : World} {R : Ending → World → Prop} (hf : P.funcs[f]? = some fn) (hb : fn.body = some c)
  (hn : Nat.ble 0 fn.ntmps = true) (h : CW P none fn.ntmps c (bodyPost P fn R) [] [] w) : Calls P f #[] w R := enter (args := []) hf hb hn h
theorem enter1 {P : Program} {f : FuncId} {fn : Func} {c : Code} {v0 : Value} {w : World} {R : Ending → World → Prop} (hf : P.funcs[f]? = some fn) (hb : fn.body = some c)
  (hn : Nat.ble 1 fn.ntmps = true) (h : CW P none fn.ntmps c (bodyPost P fn R) [(0, v0)] [] w) : Calls P f #[v0] w R := enter (args := [v0]) hf hb hn h
theorem enter2 {P : Program} {f : FuncId} {fn : Func} {c : Code} {v0 v1 : Value} {w : World} {R : Ending → World → Prop} (hf : P.funcs[f]? = some fn) (hb : fn.body = some c)
  (hn : Nat.ble 2 fn.ntmps = true) (h : CW P none fn.ntmps c (bodyPost P fn R) [(0, v0), (1, v1)] [] w) : Calls P f #[v0, v1] w R := enter (args := [v0, v1]) hf hb hn h
theorem enter3 {P : Program} {f : FuncId} {fn : Func} {c : Code} {v0 v1 v2 : Value} {w : World} {R : Ending → World → Prop} (hf : P.funcs[f]? = some fn) (hb : fn.body = some c)
  (hn : Nat.ble 3 fn.ntmps = true) (h : CW P none fn.ntmps c (bodyPost P fn R) [(0, v0), (1, v1), (2, v2)] [] w) : Calls P f #[v0, v1, v2] w R := enter (args := [v0, v1, v2]) hf hb hn h
theorem enter4 {P : Program} {f : FuncId} {fn : Func} {c : Code} {v0 v1 v2 v3 : Value} {w : World} {R : Ending → World → Prop} (hf : P.funcs[f]? = some fn) (hb : fn.body = some c)
  (hn : Nat.ble 4 fn.ntmps = true) (h : CW P none fn.ntmps c (bodyPost P fn R) [(0, v0), (1, v1), (2, v2), (3, v3)] [] w) : Calls P f #[v0, v1, v2, v3] w R := enter (args := [v0, v1, v2, v3]) hf hb hn h
section
variable {P : Program} {N : Nat} {E : List (Nat × Value)} {w : World} {fn : Func} {R : Ending → World → Prop}
theorem pn_ret {t : Nat} {v : Value} (hr : fn.results = #[.tmp t]) (hv : look E t = some v) (h : R (.returned v) w) : PN N (bodyPost P fn R) .ret E [] w := by
 intro a hk hd
 refine ⟨hd, v, ?_, h⟩
 have := hk.2 _ _ hv
 simp [results, hr, Array.getD_eq_getD_getElem?, this]
theorem pn_end0 (hr : fn.results = #[]) (h : R (.returned (.tuple #[])) w) : PN N (bodyPost P fn R) .normal E [] w := by
 intro a hk hd
 exact ⟨hd, .tuple #[], by simp [results, hr], h⟩
end
end Go.Eng
namespace Go.Eng
open Go

def ikb : IntKind → IntKind → Bool
 | .i8, .i8 | .i16, .i16 | .i32, .i32 | .i64, .i64 | .u8, .u8 | .u16, .u16 | .u32, .u32 | .u64, .u64 => true
 | _, _ => false
theorem ikb_eq {j k : IntKind} (h : ikb j k = true) : j = k := by cases j <;> cases k <;> first | rfl | cases h

def bitv (op : BinOp) (k : IntKind) (x y : Int) : Int :=
 match op with
 | .and => k.wrap (BitVec.ofInt k.bits x &&& BitVec.ofInt k.bits y).toNat
 | .or => k.wrap (BitVec.ofInt k.bits x ||| BitVec.ofInt k.bits y).toNat
 | .xor => k.wrap (BitVec.ofInt k.bits x ^^^ BitVec.ofInt k.bits y).toNat
 | _ => k.wrap (BitVec.ofInt k.bits x &&& ~~~(BitVec.ofInt k.bits y)).toNat

def cpl (k : IntKind) (n : Int) : Int := bitv .xor k (if k.signed then -1 else k.max) n

def narrow : IntKind → Bool
 | .i64 => false
 | _ => true

def ibin (op : BinOp) (k : IntKind) (a b : Int) : Option Value :=
 match op with
 | .eql => some (.bool (decide (a = b)))
 | .neq => some (.bool (!decide (a = b)))
 | .lss => some (.bool (decide (a < b)))
 | .leq => some (.bool (decide (a ≤ b)))
 | .gtr => some (.bool (decide (b < a)))
 | .geq => some (.bool (decide (b ≤ a)))
 | .add => match narrow k with | true => some (.int k (k.wrap (a + b))) | false => none
 | .sub => match narrow k with | true => some (.int k (k.wrap (a - b))) | false => none
 | .mul => match narrow k with | true => some (.int k (k.wrap (a * b))) | false => none
 | .and => some (.int k (bitv .and k a b))
 | .or => some (.int k (bitv .or k a b))
 | .xor => some (.int k (bitv .xor k a b))
 | .andNot => some (.int k (bitv .andNot k a b))
 | _ => none

theorem ibin_run {P : Program} {op : BinOp} {k : IntKind} {a b : Int} {v : Value} {t : Nat} (h : ibin op k a b = some v) (w : World) :
  (binOp op t (.int k a) (.int k b)).run P w = .ok v w := by
 cases op <;> simp only [ibin] at h <;> first
  | (cases h; done)
  | (split at h <;> first | (cases h; done) | (cases h; simp [binOp, Op.intArith]))
  | (cases h; simp [binOp, Op.intCmp, Op.intBits, bitv]; done)
  | (cases h; simp [binOp, Op.intCmp]; rfl)

theorem eqGuard_int {P : Program} {op : BinOp} {t : Nat} {x y : Operand} {k k' : IntKind} {a b : Int} (w : World) : (eqGuard op t x y (.int k a) (.int k' b)).run P w = .ok () w := by
 unfold eqGuard
 cases op <;> simp
theorem eqGuard_bool {P : Program} {op : BinOp} {t : Nat} {x y : Operand} {a b : Bool} (w : World) : (eqGuard op t x y (.bool a) (.bool b)).run P w = .ok () w := by
 unfold eqGuard
 cases op <;> simp
theorem eqGuard_string {P : Program} {op : BinOp} {t : Nat} {x y : Operand} {a b : ByteArray} (w : World) : (eqGuard op t x y (.string a) (.string b)).run P w = .ok () w := by
 unfold eqGuard
 cases op <;> simp

def sbin (op : BinOp) (a b : ByteArray) : Option Value :=
 match op with
 | .eql => some (.bool (decide (a.data = b.data)))
 | .neq => some (.bool (!decide (a.data = b.data)))
 | .lss => some (.bool (Op.bytesLess a.data.toList b.data.toList))
 | .gtr => some (.bool (Op.bytesLess b.data.toList a.data.toList))
 | _ => none

def bbin (op : BinOp) (a b : Bool) : Option Value :=
 match op with
 | .eql => some (.bool (bqq a b))
 | .neq => some (.bool (!bqq a b))
 | _ => none

def isIface : TypeDesc → Bool
 | .interface _ => true
 | _ => false
def aggT : TypeDesc → Bool
 | .struct _ | .array _ _ => true
 | _ => false

theorem TT.run_any' {P : Program} {tt : Nat → Option TI} [TT P tt] {t : Nat} {i : TI} (h : tt t = some i) : ∃ d, (∀ w, (underlying t).run P w = .ok d w) ∧ isIface d = isIface i.desc := by
 cases hs : isSt i.desc with
 | false => exact ⟨_, TT.run_und h hs, rfl⟩
 | true =>
  obtain ⟨fs, h1, _⟩ := TT.run_st (P := P) h hs
  refine ⟨_, h1, ?_⟩
  generalize i.desc = d at hs
  cases d <;> first | rfl | (simp [isSt] at hs)
theorem TT.run_any {P : Program} {tt : Nat → Option TI} [TT P tt] {t : Nat} {i : TI} (h : tt t = some i) : ∃ d, ∀ w, (underlying t).run P w = .ok d w := by
 obtain ⟨d, h1, _⟩ := TT.run_any' (P := P) h
 exact ⟨d, h1⟩

def mulz (i : Nat) : Nat → Nat
 | 1 => i
 | s => i * s
theorem mulz_eq (i s : Nat) : mulz i s = i * s := by unfold mulz; split <;> simp

def pev (tt : Nat → Option TI) (E : List (Nat × Value)) : Op → Option Value
 | .move x => ev E x
 | .assign x => ev E x
 | .pick c a b => match ev E c with
  | some (.bool true) => ev E a
  | some (.bool false) => ev E b
  | _ => none
 | .binOp op t x y _ => match ev E x, ev E y with
  | some (.int k a), some (.int k' b) => match ikb k k' with
   | true => ibin op k a b
   | false => none
  | some (.bool a), some (.bool b) => match tt t with
   | some ⟨.bool, _, _, _, _⟩ => bbin op a b
   | _ => none
  | some (.string a), some (.string b) => sbin op a b
  | _, _ => none
 | .unOp .not _ x => match ev E x with
  | some (.bool b) => some (.bool (!b))
  | _ => none
 | .unOp .neg _ x => match ev E x with
  | some (.int k n) => some (.int k (k.wrap (0 - n)))
  | _ => none
 | .unOp .xor _ x => match ev E x with
  | some (.int k n) => some (.int k (cpl k n))
  | _ => none
 | .convert src dst x => match tt src, tt dst, ev E x with
  | some _, some ⟨.int k, _, _, _, _⟩, some (.int _ n) => some (.int k (k.wrap n))
  | some _, some ⟨.string, _, _, _, _⟩, some (.string s) => some (.string s)
  | _, _, _ => none
 | .fieldAddr s x f => match tt s, ev E x with
  | some ⟨.struct _, _, _, _, fs⟩, some (.pointer (some ⟨b, o, none⟩)) => match nth fs f with
   | some (ft, fo) => match tt ft with
    | some ⟨_, _ + 1, _, _, _⟩ => some (.pointer (some ⟨b, o + fo, none⟩))
    | _ => none
   | none => none
  | _, _ => none
 | .makeInterface t x => match tt t, ev E x with
  | some i, some v => match isIface i.desc with
   | false => some (.iface t v)
   | true => none
  | _, _ => none
 | .makeFunc fn ⟨first⟩ ⟨cap⟩ => match evs E first, evs E cap with
  | some vs, some us => some (.func fn ⟨vs⟩ ⟨us⟩)
  | _, _ => none
 | .extract x i => match ev E x with
  | some (.tuple ⟨vs⟩) => nth vs i
  | _ => none
 | .nilCheck x => match ev E x with
  | some (.pointer (some a)) => some (.pointer (some a))
  | _ => none
 | .call ⟨.builtin .len, ⟨[x]⟩, ⟨[t]⟩⟩ => match tt t, ev E x with
  | some ⟨.slice _, _, _, _, _⟩, some (.slice _ n _) => some (.int .i64 n)
  | some ⟨.string, _, _, _, _⟩, some (.string s) => some (.int .i64 s.size)
  | some ⟨.array n _, _, _, _, _⟩, some _ => some (.int .i64 n)
  | _, _ => none
 | .call ⟨.builtin .cap, ⟨[x]⟩, ⟨[t]⟩⟩ => match tt t, ev E x with
  | some ⟨.slice _, _, _, _, _⟩, some (.slice _ _ n) => some (.int .i64 n)
  | _, _ => none
 | .call ⟨.builtin .max, ⟨[x, y]⟩, _⟩ => match ev E x, ev E y with
  | some (.int k a), some (.int _ b) => some (.int k (max a b))
  | _, _ => none
 | .call ⟨.builtin .min, ⟨[x, y]⟩, _⟩ => match ev E x, ev E y with
  | some (.int k a), some (.int _ b) => some (.int k (min a b))
  | _, _ => none
 | _ => none

theorem evs_map {E : List (Nat × Value)} {ρ : Operand → Value} (hρ : ∀ x u, ev E x = some u → ρ x = u) : ∀ (xs : List Operand) (vs : List Value), evs E xs = some vs → xs.map ρ = vs := by
 intro xs
 induction xs with
 | nil => intro vs hx; simp [evs] at hx; simp [hx]
 | cons x xs ih =>
  intro vs hx
  simp only [evs] at hx
  split at hx
  ·rename_i v vs' h1 h2
   cases hx
   simp [hρ _ _ h1, ih _ h2]
  ·cases hx

theorem evs_mapA {E : List (Nat × Value)} {ρ : Operand → Value} (hρ : ∀ x u, ev E x = some u → ρ x = u) {xs : List Operand} {vs : List Value} (h : evs E xs = some vs) :
  Array.map ρ ⟨xs⟩ = ⟨vs⟩ := by
 apply Array.ext'
 simp [evs_map hρ xs vs h]

theorem max_int (a b : Int) : (if b > a then b else a) = max a b := by
 rw [Int.max_def]; split <;> split <;> omega
theorem min_int (a b : Int) : (if b < a then b else a) = min a b := by
 rw [Int.min_def]; split <;> split <;> omega


theorem sbin_run {P : Program} {op : BinOp} {a b : ByteArray} {v : Value} {t : Nat} (h : sbin op a b = some v) (w : World) :
  (binOp op t (.string a) (.string b)).run P w = .ok v w := by
 have e : (a.data.toList == b.data.toList) = decide (a.data = b.data) := by
  rw [Bool.eq_iff_iff]; simp
 have key : ∀ r : Bool, r = !(Op.bytesLess a.data.toList b.data.toList || a.data.toList == b.data.toList) → r = Op.bytesLess b.data.toList a.data.toList := by
  intro r hr
  subst hr
  generalize a.data.toList = x
  generalize b.data.toList = y
  induction x generalizing y with
  | nil => cases y <;> simp [Op.bytesLess]
  | cons p x ih =>
   cases y with
   | nil => simp [Op.bytesLess]
   | cons q y =>
    have := ih y
    simp only [Op.bytesLess]
    by_cases h1 : p < q
    ·have h2 : ¬ q < p := UInt8.lt_asymm h1
     have h3 : p ≠ q := by rintro rfl; exact UInt8.lt_irrefl _ h1
     simp [h1, h2, Ne.symm h3]
    ·by_cases h2 : p = q
     ·subst h2
      simp [UInt8.lt_irrefl]
      simpa using this
     ·have h3 : q < p := by
       rcases UInt8.lt_or_lt_of_ne h2 with h | h
       ·exact absurd h h1
       ·exact h
      simp [h1, h2, h3]
 cases op <;> simp only [sbin] at h <;> first
  | (cases h; done)
  | (cases h; simp [binOp, Op.stringOp, ByteArray.toList_eq, e]; done)
  | (cases h; simp only [binOp, Op.stringOp, ByteArray.toList_eq, Sem.run_pure]; rw [key _ rfl])

theorem bbin_run {P : Program} {tt : Nat → Option TI} [TT P tt] {op : BinOp} {a b : Bool} {v : Value} {t n m : Nat} {z : Value} {fl : List (Nat × Nat)} (ht : tt t = some ⟨.bool, n, m, z, fl⟩) (h : bbin op a b = some v) (w : World) :
  (binOp op t (.bool a) (.bool b)).run P w = .ok v w := by
 have hb : ∀ a b : Bool, (a == b) = bqq a b := by decide
 have hu := TT.und (P := P) t _ ht rfl
 have he : ∀ d, (Op.equalIn (d + 1) t (.bool a) (.bool b)).run P w = .ok (bqq a b) w := by
  intro d
  simp [Op.equalIn, underlying, hu, hb]
 cases op <;> simp only [bbin] at h <;> first
  | (cases h; done)
  | (cases h; simp [binOp, Op.equal, Op.maxDepth, he 9999])

theorem pev_sound {P : Program} {tt : Nat → Option TI} [TT P tt] {E : List (Nat × Value)} {op : Op} {ty : TypeId} {v : Value} (h : pev tt E op = some v) : Pu P E op ty v := by
 intro w ρ o hρ ho _
 unfold pev at h
 split at h
 ·simp [execOp, ho, hρ _ _ h]
 ·simp [execOp, ho, hρ _ _ h]
 ·split at h
  ·rename_i hc; simp [execOp, ho, hρ _ _ h, hρ _ _ hc, asBool]
  ·rename_i hc; simp [execOp, ho, hρ _ _ h, hρ _ _ hc, asBool]
  ·cases h
 ·split at h
  ·rename_i h1 h2
   split at h
   ·rename_i hk
    obtain rfl := ikb_eq hk
    simp [execOp, ho, hρ _ _ h1, hρ _ _ h2, eqGuard_int, ibin_run h]
   ·cases h
  ·rename_i h1 h2
   split at h
   ·rename_i ht
    simp [execOp, ho, hρ _ _ h1, hρ _ _ h2, eqGuard_bool, bbin_run ht h]
   ·cases h
  ·rename_i h1 h2
   simp [execOp, ho, hρ _ _ h1, hρ _ _ h2, eqGuard_string, sbin_run h]
  ·cases h
 ·split at h
  ·rename_i hc; cases h; simp [execOp, ho, hρ _ _ hc, Op.unary]
  ·cases h
 ·split at h
  ·rename_i hc; cases h; simp [execOp, ho, hρ _ _ hc, Op.unary, Op.intArith]
  ·cases h
 ·split at h
  ·rename_i hc; cases h; simp [execOp, ho, hρ _ _ hc, Op.unary, Op.intBits, cpl, bitv]
  ·cases h
 ·split at h
  ·rename_i h1 h2 h3; cases h
   obtain ⟨sd, hs⟩ := TT.run_any (P := P) h1
   simp [execOp, ho, hρ _ _ h3, convert, hs, TT.run_und h2 rfl, Conv.intToInt]
  ·rename_i h1 h2 h3; cases h
   obtain ⟨sd, hs⟩ := TT.run_any (P := P) h1
   simp [execOp, ho, hρ _ _ h3, convert, hs, TT.run_und h2 rfl]
  ·cases h
 ·split at h
  ·rename_i h1 h2
   split at h
   ·rename_i h3
    split at h
    ·rename_i h4; cases h
     obtain ⟨fa, hf1, hf2⟩ := TT.run_st (P := P) h1 rfl
     simp only at hf2
     rw [nth_eq, ← hf2, List.getElem?_map, Option.map_eq_some_iff] at h3
     obtain ⟨fl, h5, h6⟩ := h3
     simp only [Prod.mk.injEq] at h6
     obtain ⟨rfl, rfl⟩ := h6
     rw [Array.getElem?_toList] at h5
     simp [execOp, ho, hρ _ _ h2, Instr.fieldAt, hf1, h5, Instr.sureAddr, fieldPlace, TT.run_size h4, Addr.add]
    ·cases h
   ·cases h
  ·cases h
 ·split at h
  ·rename_i ti tv h1 h2
   split at h
   ·rename_i h3; cases h
    obtain ⟨sd, hs, hi⟩ := TT.run_any' (P := P) h1
    rw [h3] at hi
    cases sd <;> first | (simp [isIface] at hi; done) | (simp [execOp, ho, hρ _ _ h2, Instr.makeInterface, hs])
   ·cases h
  ·cases h
 ·split at h
  ·rename_i h1 h2; cases h
   simp [execOp, ho, Instr.makeFunc, evs_mapA hρ h1, evs_mapA hρ h2]
  ·cases h
 ·split at h
  ·rename_i h1
   rw [nth_eq] at h
   simp [execOp, ho, hρ _ _ h1, Instr.extract, h]
  ·cases h
 ·split at h
  ·rename_i h1; cases h
   simp [execOp, ho, hρ _ _ h1]
  ·cases h
 ·split at h
  ·rename_i h1 h2; cases h
   simp [execOp, ho, resolve, invoke, builtin, Builtin.len_, hρ _ _ h2, TT.run_und h1 rfl, goInt]
  ·rename_i h1 h2; cases h
   simp [execOp, ho, resolve, invoke, builtin, Builtin.len_, hρ _ _ h2, TT.run_und h1 rfl, goInt]
  ·rename_i h1 h2; cases h
   simp [execOp, ho, resolve, invoke, builtin, Builtin.len_, hρ _ _ h2, TT.run_und h1 rfl, goInt]
  ·cases h
 ·split at h
  ·rename_i h1 h2; cases h
   simp [execOp, ho, resolve, invoke, builtin, Builtin.cap_, hρ _ _ h2, TT.run_und h1 rfl, goInt]
  ·cases h
 ·split at h
  ·rename_i h1 h2; cases h
   simp [execOp, ho, resolve, invoke, builtin, Builtin.max_, hρ _ _ h1, hρ _ _ h2, Builtin.max2, max_int]
  ·cases h
 ·split at h
  ·rename_i h1 h2; cases h
   simp [execOp, ho, resolve, invoke, builtin, Builtin.min_, hρ _ _ h1, hρ _ _ h2, Builtin.min2, min_int]
  ·cases h
 ·cases h

section
variable {P : Program} {tt : Nat → Option TI} [TT P tt] {ro : Option Nat} {N : Nat} {l rest : List Oper} {Q : Exit → Act → World → Prop} {E : List (Nat × Value)} {ds : List Deferred} {w w' : World}
 {d : Nat} {op : Op} {ty : TypeId} {pos : String} {aft : Array Edge} {g : Option (Nat × Bool)} {v : Value}
theorem o_p (hg : wants l E g = some true) (hx : pev tt E op = some v) (hd : Nat.blt d N = true) (h : OW P ro N l rest Q ((d, v) :: E) ds w) :
  OW P ro N l (⟨some d, op, ty, pos, aft, g⟩ :: rest) Q E ds w := ow_pu hg (pev_sound hx) hd h
end
end Go.Eng
namespace Go.Eng
open Go

def I64 (n : Int) : Prop := -9223372036854775808 ≤ n ∧ n ≤ 9223372036854775807
theorem I64.wrap {n : Int} (h : I64 n) : IntKind.i64.wrap n = n := by
 unfold I64 at h
 have : IntKind.i64.wrap n = (if n % 18446744073709551616 ≥ 9223372036854775808 then n % 18446744073709551616 - 18446744073709551616 else n % 18446744073709551616) := by
  simp [IntKind.wrap, IntKind.signed, IntKind.bits]
 rw [this]
 split <;> omega

def pevc (tt : Nat → Option TI) (E : List (Nat × Value)) : Op → Option (Prop × Value)
 | .binOp .add _ x y _ => match ev E x, ev E y with
  | some (.int .i64 a), some (.int .i64 b) => some (I64 (a + b), .int .i64 (a + b))
  | _, _ => none
 | .binOp .sub _ x y _ => match ev E x, ev E y with
  | some (.int .i64 a), some (.int .i64 b) => some (I64 (a - b), .int .i64 (a - b))
  | _, _ => none
 | .binOp .mul _ x y _ => match ev E x, ev E y with
  | some (.int .i64 a), some (.int .i64 b) => some (I64 (a * b), .int .i64 (a * b))
  | _, _ => none
 | .binOp .quo _ x y _ => match ev E x, ev E y with
  | some (.int k a), some (.int k' b) => match ikb k k' with
   | true => some (b ≠ 0, .int k (k.wrap (a.tdiv b)))
   | false => none
  | _, _ => none
 | .binOp .rem _ x y _ => match ev E x, ev E y with
  | some (.int k a), some (.int k' b) => match ikb k k' with
   | true => some (b ≠ 0, .int k (a.tmod b))
   | false => none
  | _, _ => none
 | .binOp .shl _ x y _ => match ev E x, ev E y with
  | some (.int k a), some (.int _ b) => some (0 ≤ b, .int k (k.wrap (a * 2 ^ min b.toNat k.bits)))
  | _, _ => none
 | .binOp .shr _ x y _ => match ev E x, ev E y with
  | some (.int k a), some (.int _ b) => some (0 ≤ b, .int k (a.fdiv (2 ^ min b.toNat k.bits)))
  | _, _ => none
 | .indexAddr t x i => match tt t, ev E x, ev E i with
  | some ⟨.slice e, _, _, _, _⟩, some (.slice (some ⟨b, o, none⟩) n _), some (.int _ i) => match tt e with
   | some ⟨_, s, _, _, _⟩ => some (0 ≤ i ∧ i < n, .pointer (some ⟨b, o + mulz i.toNat s, none⟩))
   | none => none
  | some ⟨.array n e, _, _, _, _⟩, some (.pointer (some ⟨b, o, none⟩)), some (.int _ i) => match tt e with
   | some ⟨_, s, _, _, _⟩ => some (0 ≤ i ∧ i < n, .pointer (some ⟨b, o + mulz i.toNat s, none⟩))
   | none => none
  | _, _, _ => none
 | .index t x i => match tt t, ev E x, ev E i with
  | some ⟨.string, _, _, _, _⟩, some (.string s), some (.int _ i) => some (0 ≤ i ∧ i < s.size, .int .u8 ((s.data.toList.getD i.toNat 0).toNat : Int))
  | some ⟨.array n e, _, _, _, _⟩, some (.agg cs), some (.int _ i) => match tt e with
   | some ⟨ed, 1, _, _, _⟩ => match aggT ed with
    | false => some ((0 ≤ i ∧ i < n) ∧ n ≤ cs.size, cs.toList.getD i.toNat undef)
    | true => none
   | _ => none
  | _, _, _ => none
 | .slice t x lo hi none => match tt t, ev E x with
  | some ⟨.slice e, _, _, _, _⟩, some (.slice a n c) => match tt e with
   | some ⟨_, s, _, _, _⟩ => match lo, hi with
    | none, none => some (True, .slice (if c = 0 then a else a.map (·.add (0 * s))) (n - 0) (c - 0))
    | some y, none => match ev E y with
     | some (.int _ l) => some (0 ≤ l ∧ l ≤ n, .slice (if c = l.toNat then a else a.map (·.add (l.toNat * s))) (n - l.toNat) (c - l.toNat))
     | _ => none
    | none, some z => match ev E z with
     | some (.int _ h) => some (0 ≤ h ∧ h ≤ c, .slice (if c = 0 then a else a.map (·.add (0 * s))) (h.toNat - 0) (c - 0))
     | _ => none
    | some y, some z => match ev E y, ev E z with
     | some (.int _ l), some (.int _ h) => some ((0 ≤ h ∧ h ≤ c) ∧ (0 ≤ l ∧ l ≤ h), .slice (if c = l.toNat then a else a.map (·.add (l.toNat * s))) (h.toNat - l.toNat) (c - l.toNat))
     | _, _ => none
   | none => none
  | some ⟨.string, _, _, _, _⟩, some (.string b) => match lo, hi with
   | some y, none => match ev E y with
    | some (.int _ l) => some (0 ≤ l ∧ l ≤ b.size, .string (b.extract l.toNat b.size))
    | _ => none
   | none, some z => match ev E z with
    | some (.int _ h) => some (0 ≤ h ∧ h ≤ b.size, .string (b.extract 0 h.toNat))
    | _ => none
   | some y, some z => match ev E y, ev E z with
    | some (.int _ l), some (.int _ h) => some ((0 ≤ h ∧ h ≤ b.size) ∧ (0 ≤ l ∧ l ≤ h), .string (b.extract l.toNat h.toNat))
    | _, _ => none
   | _, _ => none
  | _, _ => none
 | _ => none

theorem bound_ok {P : Program} {w : World} {k : IntKind} {i : Int} {y : Nat} {c : BoundsCode} (h : 0 ≤ i ∧ i ≤ y) : (Instr.sliceBound (.int k i) y c).run P w = .ok i.toNat w := by
 simp [Instr.sliceBound, asIntOf, h]

theorem run_isAgg {P : Program} {tt : Nat → Option TI} [TT P tt] {t : Nat} {i : TI} (h : tt t = some i) (w : World) : (isAgg t).run P w = .ok (aggT i.desc) w := by
 cases hs : isSt i.desc with
 | false =>
  simp only [isAgg, Sem.run_bind, TT.run_und h hs, Result.andThen]
  generalize i.desc = d
  cases d <;> simp [aggT]
 | true =>
  obtain ⟨fs, h1, _⟩ := TT.run_st (P := P) h hs
  simp only [isAgg, Sem.run_bind, h1, Result.andThen]
  generalize i.desc = d at hs
  cases d <;> first | (simp [isSt] at hs; done) | simp [aggT]

theorem pevc_sound {P : Program} {tt : Nat → Option TI} [TT P tt] {E : List (Nat × Value)} {op : Op} {ty : TypeId} {v : Value} {c : Prop} (h : pevc tt E op = some (c, v)) (hc : c) : Pu P E op ty v := by
 intro w ρ o hρ ho _
 unfold pevc at h
 split at h
 ·split at h
  ·rename_i h1 h2; simp only [Option.some.injEq, Prod.mk.injEq] at h; obtain ⟨rfl, rfl⟩ := h
   simp [execOp, ho, hρ _ _ h1, hρ _ _ h2, eqGuard_int, binOp, Op.intArith, I64.wrap hc]
  ·cases h
 ·split at h
  ·rename_i h1 h2; simp only [Option.some.injEq, Prod.mk.injEq] at h; obtain ⟨rfl, rfl⟩ := h
   simp [execOp, ho, hρ _ _ h1, hρ _ _ h2, eqGuard_int, binOp, Op.intArith, I64.wrap hc]
  ·cases h
 ·split at h
  ·rename_i h1 h2; simp only [Option.some.injEq, Prod.mk.injEq] at h; obtain ⟨rfl, rfl⟩ := h
   simp [execOp, ho, hρ _ _ h1, hρ _ _ h2, eqGuard_int, binOp, Op.intArith, I64.wrap hc]
  ·cases h
 ·split at h
  ·rename_i h1 h2
   split at h
   ·rename_i hk
    obtain rfl := ikb_eq hk
    simp only [Option.some.injEq, Prod.mk.injEq] at h; obtain ⟨rfl, rfl⟩ := h
    simp [execOp, ho, hρ _ _ h1, hρ _ _ h2, eqGuard_int, binOp, Op.intDiv, hc]
   ·cases h
  ·cases h
 ·split at h
  ·rename_i h1 h2
   split at h
   ·rename_i hk
    obtain rfl := ikb_eq hk
    simp only [Option.some.injEq, Prod.mk.injEq] at h; obtain ⟨rfl, rfl⟩ := h
    simp [execOp, ho, hρ _ _ h1, hρ _ _ h2, eqGuard_int, binOp, Op.intDiv, hc]
   ·cases h
  ·cases h
 ·split at h
  ·rename_i h1 h2; simp only [Option.some.injEq, Prod.mk.injEq] at h; obtain ⟨rfl, rfl⟩ := h
   have hc' := Int.not_lt.2 hc
   simp [execOp, ho, hρ _ _ h1, hρ _ _ h2, eqGuard_int, binOp, Op.shift, hc']
  ·cases h
 ·split at h
  ·rename_i h1 h2; simp only [Option.some.injEq, Prod.mk.injEq] at h; obtain ⟨rfl, rfl⟩ := h
   have hc' := Int.not_lt.2 hc
   simp [execOp, ho, hρ _ _ h1, hρ _ _ h2, eqGuard_int, binOp, Op.shift, hc']
  ·cases h
 ·split at h
  ·rename_i h1 h2 h3
   split at h
   ·rename_i h4
    simp only [Option.some.injEq, Prod.mk.injEq] at h; obtain ⟨rfl, rfl⟩ := h
    simp only [execOp, ho, hρ _ _ h2, hρ _ _ h3, Instr.indexAt, asIntOf, Sem.run_bind, Sem.run_pure, Result.andThen, TT.run_und h1 rfl]
    simp [hc, mulz_eq, Addr.add]
    simp only [TT.run_size h4]
    simp
   ·cases h
  ·rename_i h1 h2 h3
   split at h
   ·rename_i h4
    simp only [Option.some.injEq, Prod.mk.injEq] at h; obtain ⟨rfl, rfl⟩ := h
    simp only [execOp, ho, hρ _ _ h2, hρ _ _ h3, Instr.indexAt, asIntOf, Sem.run_bind, Sem.run_pure, Result.andThen, TT.run_und h1 rfl, Instr.sureAddr]
    simp [hc, mulz_eq, Addr.add]
    simp only [TT.run_size h4]
    simp
   ·cases h
  ·cases h
 ·split at h
  ·rename_i bs k i h1 h2 h3
   simp only [Option.some.injEq, Prod.mk.injEq] at h; obtain ⟨rfl, rfl⟩ := h
   have hlt : i.toNat < bs.data.toList.length := by have := hc.2; simp at this ⊢; omega
   have hg : bs[i.toNat]? = some (bs.data.toList.getD i.toNat 0) := by
    have hs : i.toNat < bs.size := by simpa using hlt
    rw [getElem?_pos bs i.toNat hs]
    congr 1
    rw [List.getD_eq_getElem?_getD, List.getElem?_eq_getElem hlt]
    simp [ByteArray.getElem_eq_getElem_data]
   simp only [execOp, ho, hρ _ _ h2, hρ _ _ h3, Instr.index, asIntOf, Sem.run_bind, Sem.run_pure, Result.andThen, TT.run_und h1 rfl, hc.1, if_true, hg]
  ·rename_i cs k i h1 h2 h3
   split at h
   ·rename_i h4
    split at h
    ·rename_i h5
     simp only [Option.some.injEq, Prod.mk.injEq] at h; obtain ⟨rfl, rfl⟩ := h
     obtain ⟨⟨hc1, hc2⟩, hc3⟩ := hc
     have hlt : i.toNat < cs.toList.length := by simp; omega
     have hg : cs[i.toNat]? = some (cs.toList.getD i.toNat undef) := by
      rw [List.getD_eq_getElem?_getD, List.getElem?_eq_getElem hlt]
      simp at hlt
      simp [hlt]
     simp only [execOp, ho, hρ _ _ h2, hρ _ _ h3, Instr.index, asIntOf, Sem.run_bind, Sem.run_pure, Result.andThen, TT.run_und h1 rfl]
     rw [if_pos ⟨hc1, by omega⟩]
     have hm : ∀ n : Nat, n * 1 = n := Nat.mul_one
     simp only [part, Sem.run_bind, run_isAgg h4, TT.run_size h4, Result.andThen, h5, hm, hg, Bool.false_eq_true, if_false, Sem.run_pure]
    ·cases h
   ·cases h
  ·cases h
 ·split at h
  ·rename_i e sz by' z a n c h1 h2
   split at h
   ·rename_i h3
    split at h
    ·simp only [Option.some.injEq, Prod.mk.injEq] at h; obtain ⟨rfl, rfl⟩ := h
     simp [execOp, ho, hρ _ _ h2, Instr.sliceAt, Instr.slice, Instr.sliceBounds, TT.run_und h1 rfl, TT.run_size h3]
    ·split at h
     ·rename_i h4
      simp only [Option.some.injEq, Prod.mk.injEq] at h; obtain ⟨rfl, rfl⟩ := h
      simp [execOp, ho, hρ _ _ h2, hρ _ _ h4, Instr.sliceAt, Instr.slice, Instr.sliceBounds, TT.run_und h1 rfl, TT.run_size h3, bound_ok hc]
     ·cases h
    ·split at h
     ·rename_i h4
      simp only [Option.some.injEq, Prod.mk.injEq] at h; obtain ⟨rfl, rfl⟩ := h
      simp [execOp, ho, hρ _ _ h2, hρ _ _ h4, Instr.sliceAt, Instr.slice, Instr.sliceBounds, TT.run_und h1 rfl, TT.run_size h3, bound_ok hc]
     ·cases h
    ·split at h
     ·rename_i h4 h5
      simp only [Option.some.injEq, Prod.mk.injEq] at h; obtain ⟨rfl, rfl⟩ := h
      simp [execOp, ho, hρ _ _ h2, hρ _ _ h4, hρ _ _ h5, Instr.sliceAt, Instr.slice, Instr.sliceBounds, TT.run_und h1 rfl, TT.run_size h3, bound_ok hc.1, bound_ok (y := _) (show _ ∧ _ ≤ ((Int.toNat _ : Nat) : Int) from ⟨hc.2.1, by rw [Int.toNat_of_nonneg hc.1.1]; exact hc.2.2⟩)]
     ·cases h
   ·cases h
  ·rename_i bs h1 h2
   split at h
   ·split at h
    ·rename_i h4
     simp only [Option.some.injEq, Prod.mk.injEq] at h; obtain ⟨rfl, rfl⟩ := h
     simp [execOp, ho, hρ _ _ h2, hρ _ _ h4, Instr.sliceAt, Instr.slice, Instr.sliceBounds, TT.run_und h1 rfl, bound_ok hc]
    ·cases h
   ·split at h
    ·rename_i h4
     simp only [Option.some.injEq, Prod.mk.injEq] at h; obtain ⟨rfl, rfl⟩ := h
     simp [execOp, ho, hρ _ _ h2, hρ _ _ h4, Instr.sliceAt, Instr.slice, Instr.sliceBounds, TT.run_und h1 rfl, bound_ok hc]
    ·cases h
   ·split at h
    ·rename_i h4 h5
     simp only [Option.some.injEq, Prod.mk.injEq] at h; obtain ⟨rfl, rfl⟩ := h
     simp [execOp, ho, hρ _ _ h2, hρ _ _ h4, hρ _ _ h5, Instr.sliceAt, Instr.slice, Instr.sliceBounds, TT.run_und h1 rfl, bound_ok hc.1, bound_ok (y := _) (show _ ∧ _ ≤ ((Int.toNat _ : Nat) : Int) from ⟨hc.2.1, by rw [Int.toNat_of_nonneg hc.1.1]; exact hc.2.2⟩)]
    ·cases h
   ·cases h
  ·cases h
 ·cases h

def ixv (tt : Nat → Option TI) (E : List (Nat × Value)) : Op → Option (Nat × Nat × Nat × Int × Nat)
 | .indexAddr t x i => match tt t, ev E x, ev E i with
  | some ⟨.slice e, _, _, _, _⟩, some (.slice (some ⟨b, o, none⟩) n _), some (.int _ i) => match tt e with
   | some ⟨_, s, _, _, _⟩ => some (b, o, n, i, s)
   | none => none
  | some ⟨.array n e, _, _, _, _⟩, some (.pointer (some ⟨b, o, none⟩)), some (.int _ i) => match tt e with
   | some ⟨_, s, _, _, _⟩ => some (b, o, n, i, s)
   | none => none
  | _, _, _ => none
 | _ => none
theorem ixv_sound {P : Program} {tt : Nat → Option TI} [TT P tt] {E : List (Nat × Value)} {op : Op} {ty : TypeId} {b o n s k : Nat} {i : Int} (h : ixv tt E op = some (b, o, n, i, s)) (hi : i = (k : Int)) (hk : k < n) :
  Pu P E op ty (.pointer (some ⟨b, o + mulz k s, none⟩)) := by
 refine pevc_sound (c := 0 ≤ i ∧ i < n) ?_ (by omega)
 have hk' : i.toNat = k := by omega
 rw [← hk']
 unfold ixv at h
 split at h
 ·split at h
  ·rename_i h1 h2 h3
   split at h
   ·rename_i h4
    simp only [Option.some.injEq, Prod.mk.injEq] at h
    obtain ⟨rfl, rfl, rfl, rfl, rfl⟩ := h
    simp only [pevc, h1, h2, h3, h4]
   ·cases h
  ·rename_i h1 h2 h3
   split at h
   ·rename_i h4
    simp only [Option.some.injEq, Prod.mk.injEq] at h
    obtain ⟨rfl, rfl, rfl, rfl, rfl⟩ := h
    simp only [pevc, h1, h2, h3, h4]
   ·cases h
  ·cases h
 ·cases h

section
variable {P : Program} {tt : Nat → Option TI} [TT P tt] {ro : Option Nat} {N : Nat} {l rest : List Oper} {Q : Exit → Act → World → Prop} {E : List (Nat × Value)} {ds : List Deferred} {w w' : World}
 {d : Nat} {op : Op} {ty : TypeId} {pos : String} {aft : Array Edge} {g : Option (Nat × Bool)} {v : Value}
theorem o_c {c : Prop} (hg : wants l E g = some true) (hx : pevc tt E op = some (c, v)) (hd : Nat.blt d N = true) (hc : c) (h : OW P ro N l rest Q ((d, v) :: E) ds w) :
  OW P ro N l (⟨some d, op, ty, pos, aft, g⟩ :: rest) Q E ds w := ow_pu hg (pevc_sound hx hc) hd h
theorem o_ix (k : Nat) {b o n s : Nat} {i : Int} (hg : wants l E g = some true) (hx : ixv tt E op = some (b, o, n, i, s)) (hd : Nat.blt d N = true) (hi : i = (k : Int)) (hk : k < n)
  (h : OW P ro N l rest Q ((d, .pointer (some ⟨b, o + mulz k s, none⟩)) :: E) ds w) : OW P ro N l (⟨some d, op, ty, pos, aft, g⟩ :: rest) Q E ds w := ow_pu hg (ixv_sound hx hi hk) hd h
end
end Go.Eng
namespace Go.Eng
open Go Go.RowKit

structure Fr (S : Nat → Prop) (w w' : World) : Prop where
 os : w'.os = w.os
 tape : w'.tape = w.tape
 output : w'.output = w.output
 size : w.heap.size ≤ w'.heap.size
 keep : ∀ k, k < w.heap.size → ¬ S k → w'.heap[k]? = w.heap[k]?
def None (_ : Nat) : Prop := False
abbrev Ext (w w' : World) : Prop := Fr None w w'

theorem Fr.refl (S : Nat → Prop) (w : World) : Fr S w w := ⟨rfl, rfl, rfl, Nat.le_refl _, fun _ _ _ => rfl⟩
theorem Fr.trans {S : Nat → Prop} {a b c : World} (h : Fr S a b) (k : Fr S b c) : Fr S a c :=
 ⟨k.os.trans h.os, k.tape.trans h.tape, k.output.trans h.output, Nat.le_trans h.size k.size, fun i hi hs => (k.keep i (Nat.lt_of_lt_of_le hi h.size) hs).trans (h.keep i hi hs)⟩
theorem Fr.mono {S T : Nat → Prop} {a b : World} (h : Fr S a b) (hs : ∀ k, k < a.heap.size → S k → T k) : Fr T a b :=
 ⟨h.os, h.tape, h.output, h.size, fun i hi ht => h.keep i hi (fun hS => ht (hs i hi hS))⟩
theorem Fr.trans' {S T : Nat → Prop} {a b c : World} (h : Fr S a b) (k : Fr T b c) (ht : ∀ j, j < a.heap.size → T j → S j) : Fr S a c :=
 ⟨k.os.trans h.os, k.tape.trans h.tape, k.output.trans h.output, Nat.le_trans h.size k.size, fun i hi hs => (k.keep i (Nat.lt_of_lt_of_le hi h.size) (fun hT => hs (ht i hi hT))).trans (h.keep i hi hs)⟩
theorem Ext.fr {S : Nat → Prop} {a b : World} (h : Ext a b) : Fr S a b := h.mono fun _ _ hn => hn.elim
theorem Ext.blk {a b : World} (h : Ext a b) {k : Nat} (hk : k < a.heap.size) : b.heap[k]? = a.heap[k]? := h.keep k hk id
theorem Ext.below {a b : World} (h : Ext a b) : Below a.heap.size a b := ⟨h.os, h.tape, h.output, h.size, fun k hk => h.keep k hk id⟩
theorem Fr.alloc {S : Nat → Prop} (w : World) (o : Obj) : Fr S w (w.alloc o) := ⟨rfl, rfl, rfl, by simp, fun k hk _ => Below.heap_alloc w o k hk⟩
theorem Fr.drew {S : Nat → Prop} (w : World) : Fr S w w.drew := ⟨rfl, rfl, rfl, Nat.le_refl _, fun _ _ _ => rfl⟩
theorem Fr.setCell (w : World) (a : Addr) (u : Value) : Fr (· = a.block) w (w.setCell a u) :=
 ⟨rfl, rfl, rfl, by simp, fun k _ hne => Below.heap_setCell w a u k hne⟩
theorem Fr.grown {w w' : World} {row : Option Nat} (h : w.grownBy w' row) : Fr (fun k => row = some k) w w' :=
 ⟨h.os, h.tape, h.output, h.size, fun k hk hne => h.block k hk (fun e => hne e.symm)⟩

theorem Fr.cell {S : Nat → Prop} {w w' : World} (h : Fr S w w') {a : Addr} (hb : a.block < w.heap.size) (hs : ¬ S a.block) : w'.cell? a = w.cell? a := World.cell?_of_block (h.keep _ hb hs)
theorem Fr.cell' {S : Nat → Prop} {w w' : World} (h : Fr S w w') {a : Addr} {v : Value} (hc : w.cell? a = some v) (hs : ¬ S a.block) : w'.cell? a = some v :=
 (h.cell (World.block_lt_of_cell? w a hc) hs).trans hc
theorem Ext.cell {w w' : World} (h : Ext w w') {a : Addr} {v : Value} (hc : w.cell? a = some v) : w'.cell? a = some v := Fr.cell' h hc id

def Blk (w : World) (g : Nat) (t : TypeId) (cs : List Value) : Prop := w.heap[g]? = some (.cells cs.toArray t (0, 0))
section
variable {w w' : World} {g : Nat} {t : TypeId} {cs : List Value}
theorem Blk.lt (h : Blk w g t cs) : g < w.heap.size := by
 rcases Nat.lt_or_ge g w.heap.size with hlt | hge
 ·exact hlt
 ·unfold Blk at h; rw [Array.getElem?_eq_none hge] at h; cases h
theorem Blk.cell (h : Blk w g t cs) (i : Nat) : w.cell? ⟨g, i, none⟩ = cs[i]? := by
 rw [cell_of_row w g i cs.toArray t (0, 0) h]; simp
theorem Blk.frozen (h : Blk w g t cs) (i : Nat) : w.frozen? ⟨g, i, none⟩ = false := by
 unfold Blk at h
 simp [World.frozen?, h]
theorem Blk.new (w : World) (t : TypeId) (cs : List Value) : Blk (w.alloc (.cells cs.toArray t)) w.heap.size t cs := heap_alloc_new w _
theorem Blk.fr {S : Nat → Prop} (h : Blk w g t cs) (hf : Fr S w w') (hs : ¬ S g) : Blk w' g t cs := (hf.keep g h.lt hs).trans h
theorem Blk.ext (h : Blk w g t cs) (hf : Ext w w') : Blk w' g t cs := h.fr hf id
theorem Blk.set (h : Blk w g t cs) (i : Nat) (u : Value) : Blk (w.setCell ⟨g, i, none⟩ u) g t (cs.set i u) := by
 unfold Blk at h ⊢
 simp [World.setCell, Array.getElem?_modify, h]
end

section
variable {P : Program} {tt : Nat → Option TI} [TT P tt] {E : List (Nat × Value)} {ty : TypeId} {w : World}

theorem ex_box {t : Nat} {x : Operand} {v : Value} (hx : ev E x = some v) : Ex P E (.box t x) ty w (.pointer (some ⟨w.heap.size, 0, none⟩)) (w.alloc (.cells v.cells t)) := by
 intro ρ o hρ ho _
 simp [execOp, ho, Instr.box, newVar, newRow, hρ _ _ hx]

theorem ex_alloc {t : Nat} {i : TI} (ht : tt t = some i) : Ex P E (.alloc t) ty w (.pointer (some ⟨w.heap.size, 0, none⟩)) (w.alloc (.cells i.zero.cells t)) := by
 intro ρ o hρ ho _
 simp [execOp, ho, Instr.alloc, newVar, newRow, TT.run_zero ht]

theorem ex_load {t : Nat} {x : Operand} {i : TI} {a : Addr} {v : Value} (ht : tt t = some i) (hagg : aggT i.desc = false) (hx : ev E x = some (.pointer (some a))) (hc : w.cell? a = some v) :
  Ex P E (.load t x) ty w v w := by
 intro ρ o hρ ho _
 simp [execOp, ho, Instr.loadAt, Instr.sureAddr, loadVar, hρ _ _ hx, run_isAgg ht, hagg, hc]

theorem ex_loadN {t : Nat} {x : Operand} {i : TI} {b off : Nat} {cs : List Value} (ht : tt t = some i) (hagg : aggT i.desc = true) (hx : ev E x = some (.pointer (some ⟨b, off, none⟩)))
  (hn : cs.length = i.size) (hc : ∀ j, j < cs.length → w.cell? ⟨b, off + j, none⟩ = cs[j]?) :
  Ex P E (.load t x) ty w (.agg cs.toArray) w := by
 intro ρ o hρ ho _
 have key : ∀ (n k : Nat) (acc : Array Value), k + n = cs.length → (loadCellsFrom ⟨b, off, none⟩ k n acc).run P w = .ok (acc ++ (cs.drop k).toArray) w := by
  intro n
  induction n with
  | zero =>
   intro k acc h
   have : cs.drop k = [] := List.drop_eq_nil_of_le (by omega)
   simp [loadCellsFrom, this]
  | succ n ih =>
   intro k acc h
   have hk : k < cs.length := by omega
   have h1 := hc k hk
   rw [List.getElem?_eq_getElem hk] at h1
   have ha : (⟨b, off, none⟩ : Addr).add k = ⟨b, off + k, none⟩ := by unfold Addr.add; split <;> simp_all
   simp only [loadCellsFrom, Sem.run_bind, ha, run_load, h1, Result.andThen]
   rw [ih (k + 1) _ (by omega), List.drop_eq_getElem_cons hk]
   simp
 have := key cs.length 0 #[] (by omega)
 simp only [List.drop_zero, Array.empty_append] at this
 simp [execOp, ho, Instr.loadAt, Instr.sureAddr, loadVar, hρ _ _ hx, run_isAgg ht, hagg, loadCells, TT.run_size ht, ← hn, this]

theorem eu_store {t : Nat} {x y : Operand} {i : TI} {a : Addr} {u v : Value} (ht : tt t = some i) (hs : i.size = 1) (hx : ev E x = some (.pointer (some a))) (hy : ev E y = some v)
  (hv : v.oneCell' = true) (hc : w.cell? a = some u) (hf : w.frozen? a = false) :
  Eu P E (.store t x y) ty w (w.setCell a v) := by
 intro ρ o hρ ho _
 have hcells : v.cells = #[v] := by cases v <;> first | rfl | (simp [Value.oneCell'] at hv)
 have ha : a.add 0 = a := by simp [Addr.add]
 simp only [execOp, ho, Instr.storeAt, Instr.sureAddr, storeVar, hρ _ _ hx, hρ _ _ hy, Sem.run_bind, Sem.run_pure, Result.andThen, TT.run_size ht, hs, hcells]
 simp [storeCells, ha, run_store P w a v .plain hv, hc, hf]
end
end Go.Eng
namespace Go.Eng
open Go Go.RowKit

def spl (cells : List Value) (off : Nat) (vs : List Value) : List Value := cells.take off ++ (vs ++ cells.drop (off + vs.length))

theorem spl_length {cells vs : List Value} {off : Nat} (h : off + vs.length ≤ cells.length) : (spl cells off vs).length = cells.length := by
 simp [spl]; omega

theorem fold_spl : ∀ (vs : List Value) (k off : Nat) (A : Array Value), off + k + vs.length ≤ A.size →
  (vs.zipIdx k).foldl (fun cs (p : Value × Nat) => cs.setIfInBounds (off + p.2) p.1) A = (spl A.toList (off + k) vs).toArray := by
 intro vs
 induction vs with
 | nil => intro k off A _; simp [spl]
 | cons v vs ih =>
  intro k off A h
  simp only [List.length_cons] at h
  simp only [List.zipIdx_cons, List.foldl_cons]
  rw [ih (k + 1) off _ (by simp; omega)]
  congr 1
  have hk : off + k < A.toList.length := by simp; omega
  simp only [spl, Array.toList_setIfInBounds]
  rw [show off + (k + 1) = off + k + 1 from by omega]
  rw [List.take_succ_eq_append_getElem (by simpa using hk)]
  simp only [List.take_set, List.getElem_set_self, List.length_cons]
  rw [List.set_eq_of_length_le (by simp; omega)]
  rw [List.drop_set_of_lt (by omega)]
  simp [Nat.add_comm, Nat.add_left_comm]

def fillL (place : Nat → Option (Nat × Nat)) (cells : List Value) : List (Nat × Value) → Option (List Value)
 | [] => some cells
 | (i, v) :: rest => match place i with
  | some (off, size) => match Nat.beq v.cells.size size, Nat.ble (off + size) cells.length with
   | true, true => fillL place (spl cells off v.cells.toList) rest
   | _, _ => none
  | none => none

theorem fill_of {place : Nat → Option (Nat × Nat)} : ∀ {parts : List (Nat × Value)} {cells r : List Value}, fillL place cells parts = some r → Instr.fill place cells.toArray parts = some r.toArray
 | [], cells, r, h => by simp [fillL] at h; simp [Instr.fill, h]
 | (i, v) :: rest, cells, r, h => by
  simp only [fillL] at h
  split at h
  ·rename_i off size hp
   split at h
   ·rename_i h1 h2
    have h1 := Nat.eq_of_beq_eq_true h1
    have h2 := Nat.le_of_ble_eq_true h2
    have ih := fill_of h
    have hz : v.cells.zipIdx = (v.cells.toList.zipIdx).toArray := by
     apply Array.ext'; rw [Array.toList_zipIdx]
    have hf := fold_spl v.cells.toList 0 off cells.toArray (by simp; omega)
    simp only [Nat.add_zero] at hf
    simp only [Instr.fill, hp]
    rw [if_neg (by simp; exact ⟨h1, by omega⟩)]
    rw [← ih]
    congr 1
    rw [← hf, hz]
    simp only [List.foldl_toArray]
   ·cases h
  ·cases h

def SL (w : World) (sz : Nat) (v : Value) (n : Nat) (cs : List Value) : Prop :=
 ∃ A c, v = .slice A n c ∧ cs.length = n * sz ∧ n ≤ c ∧ c ≤ maxLen ∧ (A = none → c = 0) ∧
  (0 < n → ∃ b off, A = some ⟨b, off, none⟩ ∧ b < w.heap.size ∧ ∀ j, j < cs.length → w.cell? ⟨b, off + j, none⟩ = cs[j]?)

def inBlk (v : Value) (k : Nat) : Prop := ∃ a n c, v = .slice (some a) n c ∧ a.block = k

theorem SL.fr {w w' : World} {sz n : Nat} {v : Value} {cs : List Value} {S : Nat → Prop} (h : SL w sz v n cs) (hf : Fr S w w') (hs : ∀ k, inBlk v k → ¬ S k) : SL w' sz v n cs := by
 obtain ⟨A, c, rfl, hl, hc, hm, hz, hx⟩ := h
 refine ⟨A, c, rfl, hl, hc, hm, hz, fun hn => ?_⟩
 obtain ⟨b, off, rfl, hb, hcell⟩ := hx hn
 refine ⟨b, off, rfl, Nat.lt_of_lt_of_le hb hf.size, fun j hj => ?_⟩
 rw [hf.cell hb (hs b ⟨_, _, _, rfl, rfl⟩)]
 exact hcell j hj
theorem SL.ext {w w' : World} {sz n : Nat} {v : Value} {cs : List Value} (h : SL w sz v n cs) (hf : Ext w w') : SL w' sz v n cs := h.fr hf fun _ _ => id
theorem SL.nil (w : World) (sz : Nat) : SL w sz (.slice none 0 0) 0 [] := ⟨none, 0, rfl, by simp, Nat.le_refl _, by decide, fun _ => rfl, fun h => absurd h (by omega)⟩
abbrev Mine (w : World) (base : Nat) (e sz : Nat) (v : Value) (n : Nat) (cs : List Value) : Prop := w.ownsRow base e sz v n cs

theorem Mine.sl {w : World} {base e sz n : Nat} {v : Value} {cs : List Value} (h : Mine w base e sz v n cs) : SL w sz v n cs := by
 rcases h.2 with ⟨rfl, rfl⟩ | ⟨g, cap, cur, rfl, hb, hh, hn, hc, hcur, htake⟩
 ·have := h.1
  simp at this
  subst this
  exact SL.nil w sz
 ·refine ⟨_, cap, rfl, h.1, hn, hc, by simp, fun _ => ⟨g, 0, rfl, ?_, fun j hj => ?_⟩⟩
  ·exact (Array.getElem?_eq_some_iff.1 hh).1
  ·rw [cell_of_row w g (0 + j) cur e (0, 0) hh]
   rw [h.1] at hj
   have : cur.toList[j]? = (cur.toList.take (n * sz))[j]? := by rw [List.getElem?_take, if_pos hj]
   simpa [htake] using this

theorem Mine.block {w : World} {base e sz n k : Nat} {v : Value} {cs : List Value} (h : Mine w base e sz v n cs) (hk : v.ownBlock = some k) : base ≤ k ∧ k < w.heap.size := h.lt k hk

theorem Mine.fr {w w' : World} {base e sz n : Nat} {v : Value} {cs : List Value} {S : Nat → Prop} (h : Mine w base e sz v n cs) (hf : Fr S w w') (hs : ∀ k, v.ownBlock = some k → ¬ S k) : Mine w' base e sz v n cs := by
 refine ⟨h.1, ?_⟩
 rcases h.2 with hn | ⟨g, cap, cur, rfl, hb, hh, rest⟩
 ·exact .inl hn
 ·exact .inr ⟨g, cap, cur, rfl, hb, (hf.keep g (Array.getElem?_eq_some_iff.1 hh).1 (hs g rfl)).trans hh, rest⟩
theorem Mine.ext {w w' : World} {base e sz n : Nat} {v : Value} {cs : List Value} (h : Mine w base e sz v n cs) (hf : Ext w w') : Mine w' base e sz v n cs := Mine.fr h hf fun _ _ => id

section
variable {P : Program} {tt : Nat → Option TI} [TT P tt] {E : List (Nat × Value)} {ty : TypeId} {w : World}

theorem run_append {base t ty e n m : Nat} {i : TI} {s1 s2 : Nat} {z1 : Value} {f1 : List (Nat × Nat)} (ht : tt t = some ⟨.slice e, s1, s2, z1, f1⟩) (he : tt e = some i) (hz : i.zero.cells.size = i.size) (hsz : 0 < i.size)
  {v vx : Value} {cs news : List Value} (hown : Mine w base e i.size v n cs) (hx : SL w i.size vx m news) (h1 : ∀ u ∈ news, u.oneCell' = true)
  (h63 : n + m ≤ maxLen) (hbytes : (n + m) * i.bytes ≤ 140737488355328) (hbase : base ≤ w.heap.size) :
  ∃ v' w', (Builtin.append_ #[t, t] ty #[v, vx]).run P w = .ok v' w' ∧ Mine w' base e i.size v' (n + m) (cs ++ news) ∧ Fr (fun k => v.ownBlock = some k) w w' := by
 obtain ⟨j, hj, h2, h3, h4⟩ := TT.info (P := P) e i he
 obtain ⟨A, c, rfl, hl, hc, hm, hz0, hcell⟩ := hx
 have hu := TT.und (P := P) t _ ht rfl
 cases A with
 | none =>
  have hm0 : m = 0 := by have := hz0 rfl; omega
  subst hm0
  have hn : news = [] := List.eq_nil_of_length_eq_zero (by simpa using hl)
  subst hn
  refine ⟨v, w, ?_, by simpa using hown, Fr.refl _ w⟩
  rcases hown.2 with ⟨rfl, rfl⟩ | ⟨g, cap, cur, rfl, _, _, hnc, _⟩
  ·simp [Builtin.append_, run_underlying hu, sizeOf, typeInfo, hj, Builtin.lenOf, Builtin.firstCells]
  ·simp [Builtin.append_, run_underlying hu, sizeOf, typeInfo, hj, Builtin.lenOf, Builtin.firstCells, hnc, storeCells]
 | some a =>
  have hnews : ∀ k u, news[k]? = some u → w.cell? (a.add k) = some u := by
   intro k u hk
   have hlt : k < news.length := (List.getElem?_eq_some_iff.1 hk).1
   have hm0 : 0 < m := by
    rcases Nat.eq_zero_or_pos m with h0 | h0
    ·subst h0; simp at hl; subst hl; simp at hlt
    ·exact h0
   obtain ⟨b, off, hab, hb, hcc⟩ := hcell hm0
   cases hab
   have ha : (⟨b, off, none⟩ : Addr).add k = ⟨b, off + k, none⟩ := by unfold Addr.add; split <;> simp_all
   rw [ha, hcc k hlt, hk]
  obtain ⟨v', w', hrun, ho, hg, _⟩ := run_append_own (P := P) w base t ty e j i.zero i.size i.bytes hu hj h4 h2 h3 hz hsz v n cs hown a m c news hl hnews h1 h63 hbytes hbase
  refine ⟨v', w', hrun, ho, (Fr.grown hg).mono fun _ _ h => h⟩

theorem ex_buildSlice {t len e s1 s2 : Nat} {z1 : Value} {f1 : List (Nat × Nat)} {i : TI} {parts : List (Nat × Operand)} {vs : List (Nat × Value)} {cells : List Value}
  (ht : tt t = some ⟨.slice e, s1, s2, z1, f1⟩) (he : tt e = some i) (hp : (parts.map fun p => ev E p.2) = vs.map fun p => some p.2) (hp1 : parts.map (·.1) = vs.map (·.1))
  (hlen : len * i.size ≤ 16777216)
  (hf : ∀ z, z.length = len * i.size → fillL (fun k => some (k * i.size, i.size)) z vs = some cells) :
  Ex P E (.buildSlice t len ⟨parts⟩) ty w (.slice (some ⟨w.heap.size, 0, none⟩) len len) (w.alloc (.cells cells.toArray e)) := by
 intro ρ o hρ ho _
 have hparts : parts.map (fun p => (p.1, ρ p.2)) = vs := by
  clear hf ho
  induction parts generalizing vs with
  | nil => cases vs with
   | nil => rfl
   | cons => simp at hp
  | cons p parts ih => cases vs with
   | nil => simp at hp
   | cons q vs =>
    simp only [List.map_cons, List.cons.injEq] at hp hp1 ⊢
    exact ⟨by rw [hp1.1, hρ _ _ hp.1], ih hp.2 hp1.2⟩
 have hnot : ¬ (2 ^ 24 < len * i.size) := by omega
 simp only [execOp, ho, Instr.buildSlice, Sem.run_bind, TT.run_und ht rfl, TT.run_size he, Result.andThen, Sem.run_ite]
 rw [if_neg (by simpa using hnot)]
 by_cases h0 : len * i.size = 0
 ·rw [if_pos h0]
  have h0' : Array.range (len * i.size) = #[] := by rw [h0]; rfl
  have := fill_of (hf [] (by simp [h0]))
  simp [h0', hparts, this, newRow]
 ·rw [if_neg h0]
  have h2 := fill_of (hf ((Array.range (len * i.size)).map (i.zero.cells[· % i.zero.cells.size]!)).toList (by simp))
  simp only [Array.toArray_toList] at h2
  simp [TT.run_zero he, hparts, h2, newRow]
end

section
variable {P : Program} {tt : Nat → Option TI} [TT P tt] {ro : Option Nat} {N : Nat} {l rest : List Oper} {Q : Exit → Act → World → Prop} {E : List (Nat × Value)} {ds : List Deferred} {w w' : World}
 {d : Nat} {op : Op} {ty : TypeId} {pos : String} {aft : Array Edge} {g : Option (Nat × Bool)} {v : Value}

theorem ow_append {t e base n m sz s1 s2 : Nat} {z1 : Value} {f1 : List (Nat × Nat)} {i : TI} {x y : Operand} {vx : Value} {cs news : List Value} (hg : wants l E g = some true) (hd : Nat.blt d N = true)
  (hop : op = .call ⟨.builtin .append, ⟨[x, y]⟩, ⟨[t, t]⟩⟩) (ht : tt t = some ⟨.slice e, s1, s2, z1, f1⟩) (he : tt e = some i) (hi : (Nat.beq i.zero.cells.size sz && Nat.beq i.size sz && Nat.ble i.bytes 2097152 && Nat.blt 0 sz) = true)
  (hx : ev E x = some v) (hy : ev E y = some vx) (hown : Mine w base e sz v n cs) (hsl : SL w sz vx m news) (h1 : ∀ u ∈ news, u.oneCell' = true)
  (hn : n + m ≤ 67108864) (hbase : base ≤ w.heap.size)
  (h : ∀ v' w', Mine w' base e sz v' (n + m) (cs ++ news) → Fr (fun k => v.ownBlock = some k) w w' → OW P ro N l rest Q ((d, v') :: E) ds w') :
  OW P ro N l (⟨some d, op, ty, pos, aft, g⟩ :: rest) Q E ds w := by
 simp only [Bool.and_eq_true] at hi
 obtain ⟨⟨⟨hz, hi⟩, hb⟩, hsz⟩ := hi
 have hz := Nat.eq_of_beq_eq_true hz
 have hi := Nat.eq_of_beq_eq_true hi
 have hb := Nat.le_of_ble_eq_true hb
 have hsz : 0 < sz := Nat.le_of_ble_eq_true hsz
 subst hi
 have hbytes : (n + m) * i.bytes ≤ 140737488355328 := Nat.le_trans (Nat.mul_le_mul hn hb) (by decide)
 obtain ⟨v', w', hrun, ho, hf⟩ := run_append (P := P) (ty := ty) ht he hz hsz hown hsl h1 (by unfold maxLen; omega) hbytes hbase
 refine ow_ex hg ?_ hd (h v' w' ho hf)
 intro ρ o hρ hop' hty
 subst hop
 subst hty
 simp only [execOp, hop', resolve, invoke, builtin, Sem.run_bind, Sem.run_pure, Result.andThen]
 have e1 : Array.map ρ #[x, y] = #[v, vx] := by simp [hρ _ _ hx, hρ _ _ hy]
 simp only [e1, hrun]
end
def VL {α : Type} (f : α → Value) (w : World) (v : Value) (xs : List α) : Prop := SL w 1 v xs.length (xs.map f)
abbrev IL (w : World) (v : Value) (xs : List Int) : Prop := VL (Value.int .i64) w v xs

section
variable {α : Type} {f : α → Value} {w w' : World} {v : Value} {xs : List α}
theorem VL.ext (h : VL f w v xs) (hf : Ext w w') : VL f w' v xs := SL.ext h hf
theorem VL.nil (f : α → Value) (w : World) : VL f w (.slice none 0 0) [] := SL.nil w 1
theorem VL.op (h : VL f w v xs) : ∃ A c, v = .slice A xs.length c ∧ xs.length ≤ c ∧ c ≤ 9223372036854775807 ∧ (A = none → c = 0) ∧
  ∀ i : Nat, i < xs.length → ∃ b off, A = some ⟨b, off, none⟩ ∧ b < w.heap.size ∧ ∀ (j : Nat) (hj : j < xs.length), w.cell? ⟨b, off + j, none⟩ = some (f xs[j]) := by
 obtain ⟨A, c, rfl, hl, hc, hm, hz, hx⟩ := h
 refine ⟨A, c, rfl, hc, hm, hz, fun i hi => ?_⟩
 obtain ⟨b, off, rfl, hb, hcell⟩ := hx (by omega)
 refine ⟨b, off, rfl, hb, fun j hj => ?_⟩
 rw [hcell j (by simpa using hj)]
 simp [hj]
theorem VL.mk {b off c : Nat} {n : Nat} (hn : n = xs.length) (hc : n ≤ c) (hm : c ≤ maxLen) (hb : b < w.heap.size) (h : ∀ (j : Nat) (hj : j < xs.length), w.cell? ⟨b, off + j, none⟩ = some (f xs[j])) :
  VL f w (.slice (some ⟨b, off, none⟩) n c) xs := by
 subst hn
 refine ⟨_, c, rfl, by simp, hc, hm, by simp, fun _ => ⟨b, off, rfl, hb, fun j hj => ?_⟩⟩
 have hj' : j < xs.length := by simpa using hj
 rw [h j hj']
 simp [hj']
end

end Go.Eng
namespace Go.Eng
open Go Go.RowKit

def flo (o : Oper) : Bool :=
 match o.op with
 | .move _ | .assign _ | .pick .. | .build .. | .load .. | .nilCheck _ | .binOp .. | .unOp .. | .makeInterface .. | .makeFunc .. | .slice .. | .fieldAddr .. | .field .. | .indexAddr ..
 | .index .. | .lookup .. | .typeAssert .. | .extract .. => true
 | .call { callee := .builtin .len, .. } | .call { callee := .builtin .cap, .. } | .call { callee := .builtin .max, .. } | .call { callee := .builtin .min, .. } => true
 | .convert _ _ _ => true
 | _ => false
def ancT : List Oper → List (List Nat) → List (List Nat)
 | [], acc => acc
 | o :: os, acc => ancT os (acc ++ [((o.after.toList.filter (Region.binds .any ·)).flatMap fun e => e.on :: (acc.getD e.on [])).eraseDups])

def noSel (o : Oper) : Bool := match o.op with | .select .. | .defer _ => false | _ => true

def okDraw (fl : Oper → Bool) (l : List Oper) : Bool :=
 let an := ancT l []
 l.all noSel &&
 (List.range l.length).all fun i => match l[i]? with
  | none => true
  | some o =>
   (o.after.toList.all fun e => !Region.binds .any e || Nat.blt e.on i) &&
   (List.range i).all fun j => match l[j]? with
    | none => true
    | some p => (an.getD i []).contains j || (p.apart l.toArray o && o.apart l.toArray p && (fl o || fl p))

section
variable {P : Program} {ro : Option Nat} {l : List Oper} {Q : Exit → Act → World → Prop} {S : World → Prop} {fl : Oper → Bool}

def Eff (P : Program) (ro : Option Nat) (o : Oper) (a : Act) (w : World) (next : Value → World → Prop) : Prop :=
 match (execOp a.eval o).run P w with
 | .ok (.value v) w' => next v w'
 | .ok .skip w' => next undef w'
 | .ok (.enter f args) w' => Calls P f args w' fun e w'' => ∃ v, e = .returned v ∧ next v w''
 | .ok (.round k fn tmps assign body) w' => RoundIn (FR ro) 0 P k fn tmps assign body w' fun e w'' => ∃ v, e = .returned v ∧ next v w''
 | _ => False

theorem Eff.mono {o : Oper} {a : Act} {w : World} {n n' : Value → World → Prop} (h : Eff P ro o a w n) (hn : ∀ v w', n v w' → n' v w') : Eff P ro o a w n' := by
 unfold Eff at *
 generalize (execOp a.eval o).run P w = r at *
 split at h
 ·exact hn _ _ h
 ·exact hn _ _ h
 ·exact Calls.mono h fun e w' ⟨v, he, hv⟩ => ⟨v, he, hn _ _ hv⟩
 ·exact RoundIn.mono h fun e w' ⟨v, he, hv⟩ => ⟨v, he, hn _ _ hv⟩
 ·exact h.elim

theorem Eff.some {o : Oper} {a : Act} {w : World} {n : Value → World → Prop} (h : Eff P ro o a w n) : ∃ v w', n v w' := by
 unfold Eff at h
 split at h
 ·exact ⟨_, _, h⟩
 ·exact ⟨_, _, h⟩
 ·obtain ⟨e, w', fr, ⟨v, _, hv⟩, _⟩ := h []
  exact ⟨v, w', hv⟩
 ·obtain ⟨e, w', ⟨v, _, hv⟩, _⟩ := h.2 default [] (room_wide _)
  exact ⟨v, w', hv⟩
 ·exact h.elim

theorem Eff.wpIn {o : Oper} {a : Act} {w : World} {K : Act → World → Prop} (hd : ∀ c, o.op ≠ .defer c) (h : Eff P ro o a w fun v w' => K (a.put o.dst v) w') : o.wpIn (FR ro) 0 P a w K Q := by
 unfold Oper.wpIn
 refine ⟨fun f _ => FR_fn ro f, ?_⟩
 rw [Oper.semAt_eq _ _ _ hd]
 unfold Eff at h
 split at h
 ·rename_i hr; rw [hr]; exact h
 ·rename_i hr; rw [hr]; exact h
 ·rename_i hr
  rw [hr, Oper.uponIn_enter]
  refine ⟨fun h => by simp [Fence.wide] at h, (calls_FR h).mono ?_⟩
  rintro e w' ⟨v, rfl, h'⟩
  exact h'
 ·rename_i hr
  rw [hr, Oper.uponIn_round]
  refine ⟨fun h => by simp [Fence.wide] at h, RoundIn.mono h ?_⟩
  rintro e w' ⟨v, rfl, h'⟩
  exact h'
 ·exact h.elim

def Tx (P : Program) (fl : Oper → Bool) (ro : Option Nat) (l : List Oper) (S : World → Prop) (Q : Exit → Act → World → Prop) : List Nat → Act → World → Prop
 | [], a, w => Q .normal a w
 | i :: R, a, w => ∃ o, l[i]? = some o ∧
   (Region.wanted o (yielded l.toArray a.tmps) = true →
    (fl o = true ∧ ∃ v, (∀ W, S W → (execOp a.eval o).run P W = .ok (.value v) W) ∧ Tx P fl ro l S Q R (a.put o.dst v) w) ∨
    (fl o = false ∧ Eff P ro o a w fun v w' => S w' ∧ Tx P fl ro l S Q R (a.put o.dst v) w')) ∧
   (Region.wanted o (yielded l.toArray a.tmps) = false → Tx P fl ro l S Q R (a.put o.dst undef) w)

def Fl (P : Program) (l : List Oper) (S : World → Prop) (o : Oper) (a : Act) (v : Value) : Prop :=
 (Region.wanted o (yielded l.toArray a.tmps) = true → ∀ W, S W → (execOp a.eval o).run P W = .ok (.value v) W) ∧ (Region.wanted o (yielded l.toArray a.tmps) = false → v = undef)

theorem Fl.unique {o : Oper} {a : Act} {v v' : Value} {w : World} (hS : S w) (h : Fl P l S o a v) (h' : Fl P l S o a v') : v = v' := by
 cases hw : Region.wanted o (yielded l.toArray a.tmps) with
 | true =>
  have h1 := h.1 hw w hS
  have h2 := h'.1 hw w hS
  rw [h1] at h2
  injection h2 with h3 _
  injection h3
 | false => rw [h.2 hw, h'.2 hw]

def Apart (l : List Oper) (o p : Oper) : Prop := o.apart l.toArray p = true ∧ p.apart l.toArray o = true

theorem noSel_select {o : Oper} (h : noSel o = true) : ∀ cs b, o.op ≠ .select cs b := fun cs b e => by simp [noSel, e] at h
theorem noSel_defer {o : Oper} (h : noSel o = true) : ∀ c, o.op ≠ .defer c := fun c e => by simp [noSel, e] at h

theorem run_put {o p : Oper} {a : Act} {u : Value} (hs : noSel o = true) (h : Apart l p o) : execOp (a.put p.dst u).eval o = execOp a.eval o :=
 execOp_put o (noSel_select hs) a p.dst u (Oper.apart_spec h.1).1
theorem want_put {o p : Oper} {a : Act} {u : Value} (h : Apart l p o) : Region.wanted o (yielded l.toArray (a.put p.dst u).tmps) = Region.wanted o (yielded l.toArray a.tmps) :=
 wanted_put o a p.dst u (Oper.apart_spec h.1).1
theorem put_put {o p : Oper} {a : Act} {u v : Value} (h : Apart l p o) : (a.put p.dst u).put o.dst v = (a.put o.dst v).put p.dst u :=
 Act.put_comm a u v (Oper.apart_spec h.1).2.1
theorem Apart.symm {o p : Oper} (h : Apart l o p) : Apart l p o := ⟨h.2, h.1⟩

theorem Fl.put {o p : Oper} {a : Act} {u v : Value} (hs : noSel o = true) (h : Apart l p o) : Fl P l S o (a.put p.dst u) v ↔ Fl P l S o a v := by
 unfold Fl
 rw [run_put hs h, want_put h]

theorem Tx.first (hns : ∀ (i : Nat) (o : Oper), l[i]? = some o → noSel o = true) {i : Nat} {oi : Oper} (hi : l[i]? = some oi) (hf : fl oi = true) {R2 : List Nat} :
  ∀ (R1 : List Nat) (a : Act) (w : World), (∀ r ∈ R1, ∀ p : Oper, l[(r : Nat)]? = some p → Apart l p oi) → S w → Tx P fl ro l S Q (R1 ++ i :: R2) a w →
   ∃ v, Fl P l S oi a v ∧ Tx P fl ro l S Q (R1 ++ R2) (a.put oi.dst v) w := by
 intro R1
 induction R1 with
 | nil =>
  intro a w _ hS h
  simp only [List.nil_append] at h ⊢
  obtain ⟨o, ho, hw, hn⟩ := h
  rw [hi] at ho
  cases ho
  cases hwant : Region.wanted oi (yielded l.toArray a.tmps) with
  | true =>
   rcases hw hwant with ⟨_, v, hv, ht⟩ | ⟨hff, _⟩
   ·exact ⟨v, ⟨fun _ => hv, fun hc => (by rw [hwant] at hc; cases hc)⟩, ht⟩
   ·rw [hf] at hff; cases hff
  | false => exact ⟨undef, ⟨fun hc => (by rw [hwant] at hc; cases hc), fun _ => rfl⟩, hn hwant⟩
 | cons r R1 ih =>
  intro a w hap hS h
  obtain ⟨p, hp, hw, hn⟩ := h
  have hapr := hap r List.mem_cons_self p hp
  have hap' : ∀ r ∈ R1, ∀ p : Oper, l[(r : Nat)]? = some p → Apart l p oi := fun r hr => hap r (List.mem_cons_of_mem _ hr)
  have hsp := hns _ _ hp
  have hsi := hns _ _ hi
  cases hwant : Region.wanted p (yielded l.toArray a.tmps) with
  | false =>
   obtain ⟨v, hv, ht⟩ := ih _ w hap' hS (hn hwant)
   refine ⟨v, (Fl.put hsi hapr).1 hv, p, hp, fun hc => ?_, fun _ => ?_⟩
   ·rw [want_put hapr.symm, hwant] at hc; cases hc
   ·rw [put_put hapr.symm]; exact ht
  | true =>
   rcases hw hwant with ⟨hfp, u, hu, ht0⟩ | ⟨hfp, he⟩
   ·obtain ⟨v, hv, ht⟩ := ih _ w hap' hS ht0
    refine ⟨v, (Fl.put hsi hapr).1 hv, p, hp, fun _ => .inl ⟨hfp, u, ?_, ?_⟩, fun hc => ?_⟩
    ·rw [run_put hsp hapr.symm]; exact hu
    ·rw [put_put hapr.symm]; exact ht
    ·rw [want_put hapr.symm, hwant] at hc; cases hc
   ·obtain ⟨u0, w0, hS0, ht0⟩ := he.some
    obtain ⟨v, hv, _⟩ := ih _ w0 hap' hS0 ht0
    have hv := (Fl.put hsi hapr).1 hv
    refine ⟨v, hv, p, hp, fun _ => .inr ⟨hfp, ?_⟩, fun hc => ?_⟩
    ·unfold Eff at he ⊢
     rw [run_put hsp hapr.symm]
     refine (show Eff P ro p a w _ from he).mono ?_
     rintro u w' ⟨hS', ht'⟩
     obtain ⟨v', hv', ht''⟩ := ih _ w' hap' hS' ht'
     have hv' := (Fl.put hsi hapr).1 hv'
     have := Fl.unique hS' hv hv'
     subst this
     refine ⟨hS', ?_⟩
     rw [put_put hapr.symm]; exact ht''
    ·rw [want_put hapr.symm, hwant] at hc; cases hc

theorem Tx.over (hns : ∀ (i : Nat) (o : Oper), l[i]? = some o → noSel o = true) {i : Nat} {oi : Oper} (hi : l[i]? = some oi) (hf : fl oi = false) {R2 : List Nat} :
  ∀ (R1 : List Nat) (a : Act) (w : World), (∀ r ∈ R1, ∀ p : Oper, l[(r : Nat)]? = some p → Apart l p oi ∧ fl p = true) → Tx P fl ro l S Q (R1 ++ i :: R2) a w →
   (Region.wanted oi (yielded l.toArray a.tmps) = true → Eff P ro oi a w fun v w' => S w' ∧ Tx P fl ro l S Q (R1 ++ R2) (a.put oi.dst v) w') ∧
   (Region.wanted oi (yielded l.toArray a.tmps) = false → Tx P fl ro l S Q (R1 ++ R2) (a.put oi.dst undef) w) := by
 intro R1
 induction R1 with
 | nil =>
  intro a w _ h
  simp only [List.nil_append] at h ⊢
  obtain ⟨o, ho, hw, hn⟩ := h
  rw [hi] at ho
  cases ho
  refine ⟨fun hwant => ?_, hn⟩
  rcases hw hwant with ⟨hff, _⟩ | ⟨_, he⟩
  ·rw [hf] at hff; cases hff
  ·exact he
 | cons r R1 ih =>
  intro a w hap h
  obtain ⟨p, hp, hw, hn⟩ := h
  obtain ⟨hapr, hfp⟩ := hap r List.mem_cons_self p hp
  have hap' : ∀ r ∈ R1, ∀ p : Oper, l[(r : Nat)]? = some p → Apart l p oi ∧ fl p = true := fun r hr => hap r (List.mem_cons_of_mem _ hr)
  have hsp := hns _ _ hp
  have hsi := hns _ _ hi
  cases hwant : Region.wanted p (yielded l.toArray a.tmps) with
  | false =>
   obtain ⟨h1, h2⟩ := ih _ w hap' (hn hwant)
   rw [want_put hapr] at h1 h2
   have back : ∀ v w', Tx P fl ro l S Q (R1 ++ R2) ((a.put p.dst undef).put oi.dst v) w' → Tx P fl ro l S Q (r :: (R1 ++ R2)) (a.put oi.dst v) w' := by
    intro v w' ht
    refine ⟨p, hp, fun hc => ?_, fun _ => ?_⟩
    ·rw [want_put hapr.symm, hwant] at hc; cases hc
    ·rw [put_put hapr.symm]; exact ht
   refine ⟨fun hwi => ?_, fun hwi => back _ _ (h2 hwi)⟩
   have he := h1 hwi
   unfold Eff at he ⊢
   rw [run_put hsi hapr] at he
   exact (show Eff P ro oi a w _ from he).mono fun v w' ⟨hS', ht⟩ => ⟨hS', back _ _ ht⟩
  | true =>
   rcases hw hwant with ⟨_, u, hu, ht0⟩ | ⟨hff, _⟩
   ·obtain ⟨h1, h2⟩ := ih _ w hap' ht0
    rw [want_put hapr] at h1 h2
    have back : ∀ v w', Tx P fl ro l S Q (R1 ++ R2) ((a.put p.dst u).put oi.dst v) w' → Tx P fl ro l S Q (r :: (R1 ++ R2)) (a.put oi.dst v) w' := by
     intro v w' ht
     refine ⟨p, hp, fun _ => .inl ⟨hfp, u, ?_, ?_⟩, fun hc => ?_⟩
     ·rw [run_put hsp hapr.symm]; exact hu
     ·rw [put_put hapr.symm]; exact ht
     ·rw [want_put hapr.symm, hwant] at hc; cases hc
    refine ⟨fun hwi => ?_, fun hwi => back _ _ (h2 hwi)⟩
    have he := h1 hwi
    unfold Eff at he ⊢
    rw [run_put hsi hapr] at he
    exact (show Eff P ro oi a w _ from he).mono fun v w' ⟨hS', ht⟩ => ⟨hS', back _ _ ht⟩
   ·rw [hfp] at hff; cases hff

def Closed (l : List Oper) (listed : Array Bool) : Prop :=
 ∀ (i : Nat) (o : Oper), listed.getD i false = true → l[i]? = some o → ∀ e ∈ o.after.toList, Region.binds .any e = true → listed.getD e.on false = true

theorem ancT_sound {listed : Array Bool} (hcl : Closed l listed) : ∀ (os pre : List Oper) (acc : List (List Nat)), l = pre ++ os → acc.length = pre.length →
  (∀ (i : Nat) (o : Oper), i < acc.length → l[i]? = some o → (∀ e ∈ o.after.toList, Region.binds .any e = true → listed.getD e.on false = true) → ∀ j ∈ acc.getD i [], listed.getD j false = true) →
  ∀ (i : Nat) (o : Oper), l[i]? = some o → (∀ e ∈ o.after.toList, Region.binds .any e = true → listed.getD e.on false = true) → ∀ j ∈ (ancT os acc).getD i [], listed.getD j false = true := by
 intro os
 induction os with
 | nil =>
  intro pre acc hl hlen hacc i o hi he j hj
  have hlt : i < l.length := (List.getElem?_eq_some_iff.1 hi).1
  rw [List.append_nil] at hl
  exact hacc i o (by rw [hlen, ← hl]; exact hlt) hi he j hj
 | cons p os ih =>
  intro pre acc hl hlen hacc
  simp only [ancT]
  refine ih (pre ++ [p]) _ (by simpa using hl) (by simp [hlen]) ?_
  intro i o hi ho he j hj
  simp only [List.length_append, List.length_cons, List.length_nil] at hi
  by_cases hlt : i < acc.length
  ·have : (acc ++ [((p.after.toList.filter (Region.binds .any ·)).flatMap fun e => e.on :: (acc.getD e.on [])).eraseDups]).getD i [] = acc.getD i [] := by
    simp [List.getD_eq_getElem?_getD, List.getElem?_append_left hlt]
   rw [this] at hj
   exact hacc i o hlt ho he j hj
  ·have hie : i = acc.length := by omega
   subst hie
   have hop : o = p := by
    rw [hl, hlen, List.getElem?_append_right (Nat.le_refl _)] at ho
    simpa using ho.symm
   subst hop
   have : (acc ++ [((o.after.toList.filter (Region.binds .any ·)).flatMap fun e => e.on :: (acc.getD e.on [])).eraseDups]).getD acc.length [] = ((o.after.toList.filter (Region.binds .any ·)).flatMap fun e => e.on :: (acc.getD e.on [])).eraseDups := by
    simp [List.getD_eq_getElem?_getD]
   rw [this, List.mem_eraseDups, List.mem_flatMap] at hj
   obtain ⟨e, hmem, hje⟩ := hj
   rw [List.mem_filter] at hmem
   have hon := he e hmem.1 hmem.2
   rcases List.mem_cons.1 hje with rfl | hje
   ·exact hon
   ·by_cases hel : e.on < acc.length
    ·have hlt' : e.on < l.length := by rw [hl]; simp; omega
     have hg : l[e.on]? = some l[e.on] := List.getElem?_eq_getElem hlt'
     exact hacc e.on _ hel hg (hcl e.on _ hon hg) j hje
    ·simp [List.getD_eq_getElem?_getD, List.getElem?_eq_none (Nat.le_of_not_lt hel)] at hje

def left (l : List Oper) (listed : Array Bool) : List Nat := (List.range l.length).filter fun i => !listed.getD i true

theorem filter_split {p : Nat → Bool} {i : Nat} : ∀ {L : List Nat}, L.Nodup → i ∈ L → p i = true → L.Pairwise (· < ·) →
  ∃ R1 R2, L.filter p = R1 ++ i :: R2 ∧ (∀ r ∈ R1, r < i ∧ p r = true) ∧ L.filter (fun j => p j && j != i) = R1 ++ R2 := by
 intro L
 induction L with
 | nil => intro _ h; cases h
 | cons x L ih =>
  intro hnd hi hp hpw
  rw [List.nodup_cons] at hnd
  rw [List.pairwise_cons] at hpw
  by_cases hx : x = i
  ·subst hx
   refine ⟨[], L.filter p, by simp [hp], by simp, ?_⟩
   have : L.filter (fun j => p j && j != x) = L.filter p := by
    apply List.filter_congr
    intro j hj
    have : j ≠ x := fun e => hnd.1 (e ▸ hj)
    simp [this]
   simp [this]
  ·have hi' : i ∈ L := by
    rcases List.mem_cons.1 hi with h | h
    ·exact absurd h.symm hx
    ·exact h
   obtain ⟨R1, R2, h1, h2, h3⟩ := ih hnd.2 hi' hp hpw.2
   by_cases hpx : p x = true
   ·refine ⟨x :: R1, R2, by simp [hpx, h1], ?_, by simp [hpx, hx, h3]⟩
    intro r hr
    rcases List.mem_cons.1 hr with rfl | hr
    ·exact ⟨hpw.1 i hi', hpx⟩
    ·exact h2 r hr
   ·refine ⟨R1, R2, by simp [hpx, h1], h2, by simp [hpx, h3]⟩

theorem okDraw_ns (h : okDraw fl l = true) (i : Nat) (o : Oper) (ho : l[i]? = some o) : noSel o = true := by
 simp only [okDraw, Bool.and_eq_true] at h
 exact List.all_eq_true.1 h.1 o (List.mem_of_getElem? ho)
theorem okDraw_back (h : okDraw fl l = true) (i : Nat) (o : Oper) (ho : l[i]? = some o) (e : Edge) (he : e ∈ o.after.toList) (hb : Region.binds .any e = true) : e.on < i := by
 simp only [okDraw, Bool.and_eq_true] at h
 have hlt : i < l.length := (List.getElem?_eq_some_iff.1 ho).1
 have := List.all_eq_true.1 h.2 i (List.mem_range.2 hlt)
 simp only [ho, Bool.and_eq_true] at this
 have := List.all_eq_true.1 this.1 e he
 simp only [hb, Bool.not_true, Bool.false_or] at this
 exact Nat.le_of_ble_eq_true this
theorem okDraw_pair (h : okDraw fl l = true) (i j : Nat) (o p : Oper) (ho : l[i]? = some o) (hp : l[j]? = some p) (hji : j < i) :
  j ∈ (ancT l []).getD i [] ∨ (Apart l p o ∧ (fl o = true ∨ fl p = true)) := by
 simp only [okDraw, Bool.and_eq_true] at h
 have hlt : i < l.length := (List.getElem?_eq_some_iff.1 ho).1
 have := List.all_eq_true.1 h.2 i (List.mem_range.2 hlt)
 simp only [ho, Bool.and_eq_true] at this
 have := List.all_eq_true.1 this.2 j (List.mem_range.2 hji)
 simp only [hp, Bool.or_eq_true, Bool.and_eq_true] at this
 rcases this with h1 | ⟨⟨h1, h2⟩, h3⟩
 ·exact .inl (List.contains_iff_mem.1 h1)
 ·exact .inr ⟨⟨h1, h2⟩, h3⟩

theorem getD_both {listed : Array Bool} {i : Nat} (h : i < listed.size) : listed.getD i true = listed.getD i false := by
 simp [Array.getD_eq_getD_getElem?, h]

theorem any_of_Tx (hok : okDraw fl l = true) : ∀ (fuel : Nat) (listed : Array Bool) (a : Act) (w : World), listed.size = l.length → Closed l listed → (left l listed).length = fuel → S w →
  Tx P fl ro l S Q (left l listed) a w → wpAnyIn (FR ro) 0 P .any l.toArray Q fuel listed a w := by
 intro fuel
 induction fuel with
 | zero =>
  intro listed a w hsz hcl hlen hS h
  have hnil : left l listed = [] := List.eq_nil_of_length_eq_zero hlen
  rw [hnil] at h
  refine ⟨?_, h⟩
  rw [List.eq_nil_iff_forall_not_mem]
  intro i hi
  rw [mem_ready] at hi
  obtain ⟨h0, o, ho, _⟩ := hi
  have hlt : i < l.length := by simpa using (Array.getElem?_eq_some_iff.1 ho).1
  have : i ∈ left l listed := by unfold left; rw [List.mem_filter]; exact ⟨List.mem_range.2 hlt, by simp [h0]⟩
  rw [hnil] at this; cases this
 | succ fuel ih =>
  intro listed a w hsz hcl hlen hS h
  refine ⟨fun hr => ?_, ?_⟩
  · -- the first that is left is ready
   exfalso
   cases hl : left l listed with
   | nil => rw [hl] at hlen; simp at hlen
   | cons i R =>
    have himem : i ∈ left l listed := by rw [hl]; exact List.mem_cons_self
    have hi2 := List.mem_filter.1 himem
    have hlt := List.mem_range.1 hi2.1
    have hmin : ∀ j, j < i → listed.getD j false = true := by
     intro j hj
     cases hlj : listed.getD j false with
     | true => rfl
     | false =>
      exfalso
      have hjl : j < l.length := by omega
      have hjm : j ∈ left l listed := by
       unfold left; rw [List.mem_filter]
       exact ⟨List.mem_range.2 hjl, by rw [getD_both (by omega), hlj]; rfl⟩
      have hpw : (left l listed).Pairwise (· < ·) := List.Pairwise.filter _ List.pairwise_lt_range
      rw [hl] at hjm hpw
      rcases List.mem_cons.1 hjm with rfl | hjm
      ·omega
      ·have := (List.pairwise_cons.1 hpw).1 j hjm
       omega
    have hg : l[i]? = some l[i] := List.getElem?_eq_getElem hlt
    have : i ∈ Region.ready .any l.toArray listed := by
     rw [mem_ready]
     refine ⟨by simpa using hi2.2, l[i], by simp, fun e he hb => ?_⟩
     exact hmin _ (okDraw_back hok i _ hg e (by simpa using he) hb)
    rw [hr] at this; cases this
  ·intro i hi
   rw [mem_ready] at hi
   obtain ⟨h0, o, ho, hdeps⟩ := hi
   have ho' : l[i]? = some o := by simpa using ho
   have hlt : i < l.length := (List.getElem?_eq_some_iff.1 ho').1
   obtain ⟨R1, R2, hs1, hs2, hs3⟩ := filter_split (p := fun j => !listed.getD j true) List.nodup_range (List.mem_range.2 hlt) (by simp [h0]) List.pairwise_lt_range
   have hleft' : left l (listed.setIfInBounds i true) = R1 ++ R2 := by
    rw [← hs3]
    unfold left
    apply List.filter_congr
    intro j _
    by_cases hij : i = j
    ·subst hij
     have : i < listed.size := by omega
     simp [this]
    ·rw [getD_set_ne true hij]
     simp [Ne.symm hij]
   have hleft : left l listed = R1 ++ i :: R2 := hs1
   have hcl' : Closed l (listed.setIfInBounds i true) := by
    intro k p hk hp e he hb
    by_cases hik : i = k
    ·subst hik
     rw [ho'] at hp
     cases hp
     exact getD_set_true (hdeps e (by simpa using he) hb)
    ·rw [getD_set_ne false hik] at hk
     exact getD_set_true (hcl k p hk hp e he hb)
   have hlen' : (left l (listed.setIfInBounds i true)).length = fuel := by
    rw [hleft']
    rw [hleft] at hlen
    simp at hlen ⊢
    omega
   have hsz' : (listed.setIfInBounds i true).size = l.length := by simpa using hsz
   have hanc : ∀ r ∈ R1, ∀ p : Oper, l[(r : Nat)]? = some p → Apart l p o ∧ (fl o = true ∨ fl p = true) := by
    intro r hr p hp
    obtain ⟨hri, hun⟩ := hs2 r hr
    rcases okDraw_pair hok i r o p ho' hp hri with hm | hm
    ·exfalso
     have := ancT_sound hcl l [] [] rfl rfl (fun i o h => by simp at h) i o ho' (fun e he hb => hdeps e (by simpa using he) hb) r hm
     have hrl : r < l.length := (List.getElem?_eq_some_iff.1 hp).1
     rw [getD_both (by omega), this] at hun
     cases hun
    ·exact hm
   rw [hleft] at h
   have next : ∀ (a' : Act) (w' : World), S w' → Tx P fl ro l S Q (R1 ++ R2) a' w' → wpAnyIn (FR ro) 0 P .any l.toArray Q fuel (listed.setIfInBounds i true) a' w' :=
    fun a' w' hS' ht => ih _ a' w' hsz' hcl' hlen' hS' (by rw [hleft']; exact ht)
   have hwp : ∀ (h1 : Region.wanted o (yielded l.toArray a.tmps) = true → Eff P ro o a w fun v w' => S w' ∧ Tx P fl ro l S Q (R1 ++ R2) (a.put o.dst v) w')
     (h2 : Region.wanted o (yielded l.toArray a.tmps) = false → Tx P fl ro l S Q (R1 ++ R2) (a.put o.dst undef) w),
     wpOpIn (FR ro) 0 P l.toArray Q i (wpAnyIn (FR ro) 0 P .any l.toArray Q fuel (listed.setIfInBounds i true)) a w := by
    intro h1 h2
    unfold wpOpIn
    rw [ho]
    dsimp only
    cases hw : Region.wanted o (yielded l.toArray a.tmps) with
    | true =>
     rw [if_pos rfl]
     exact Eff.wpIn (noSel_defer (okDraw_ns hok i o ho')) ((h1 hw).mono fun v w' ⟨hS', ht⟩ => next _ _ hS' ht)
    | false =>
     rw [if_neg (by simp)]
     exact ⟨fun f _ => FR_fn ro f, next _ _ hS (h2 hw)⟩
   cases hf : fl o with
   | true =>
    obtain ⟨v, hv, ht⟩ := Tx.first (okDraw_ns hok) ho' hf R1 a w (fun r hr p hp => (hanc r hr p hp).1) hS h
    refine hwp (fun hw => ?_) (fun hw => ?_)
    ·unfold Eff
     rw [hv.1 hw w hS]
     exact ⟨hS, ht⟩
    ·rw [hv.2 hw] at ht; exact ht
   | false =>
    obtain ⟨h1, h2⟩ := Tx.over (okDraw_ns hok) ho' hf R1 a w (fun r hr p hp => ⟨(hanc r hr p hp).1, ((hanc r hr p hp).2).resolve_left (by simp [hf])⟩) h
    exact hwp h1 h2

theorem region_drawn (hok : okDraw fl l = true) (hm : P.follows .mixedOrders = true) {id : Nat} {a : Act} {w : World} (hS : S w.drew)
  (h : Tx P fl ro l S Q (List.range l.length) a w.drew) : (Code.region id l.toArray true).wpIn (FR ro) 0 P Q a w := by
 have hleft : left l (Array.replicate l.length false) = List.range l.length := by
  unfold left
  rw [List.filter_eq_self]
  intro i hi
  have := List.mem_range.1 hi
  simp [this]
 refine wpIn_region_any hm ?_
 have := any_of_Tx (P := P) (ro := ro) (Q := Q) hok l.length (Array.replicate l.length false) a w.drew (by simp)
  (by intro i o hi; simp [Array.getElem?_replicate] at hi; split at hi <;> simp at hi) (by rw [hleft]; simp) hS (by rw [hleft]; exact h)
 simpa using this

class Mixed (P : Program) : Prop where
 on : P.follows .mixedOrders = true

variable {N : Nat} {rest : List Oper} {E : List (Nat × Value)} {ds : List Deferred} {w w' : World} {k d : Nat} {op : Op} {ty : TypeId} {pos : String} {aft : Array Edge} {g : Option (Nat × Bool)} {v : Value}

def DW (P : Program) (fl : Oper → Bool) (ro : Option Nat) (N : Nat) (S : World → Prop) (l : List Oper) (k : Nat) (rest : List Oper) (Q : Exit → Act → World → Prop) (E : List (Nat × Value)) (ds : List Deferred) (w : World) : Prop :=
 ∀ a, Kn N E a → a.defers = ds → S w → (∀ j : Nat, j < rest.length → rest[j]? = l[k + j]?) → Tx P fl ro l S Q (List.range' k rest.length) a w

theorem cw_draw (fl : Oper → Bool) (S : World → Prop) [hm : Mixed P] {id : Nat} (hok : okDraw fl l = true) (hS : S w.drew) (h : DW P fl ro N S l 0 l Q E ds w.drew) : CW P ro N (.region id l.toArray true) Q E ds w :=
 fun a hk hd => region_drawn hok hm.on hS (by
  have := h a hk hd hS (by intro j _; simp)
  rwa [← List.range_eq_range'] at this)

theorem dw_nil (h : PN N Q .normal E ds w) : DW P fl ro N S l k [] Q E ds w := fun a hk hd _ _ => h a hk hd

theorem put_defers' (a : Act) (x : Option Tmp) (u : Value) : (a.put x u).defers = a.defers := by cases x <;> rfl

theorem dw_tail {o : Oper} (hl : ∀ j : Nat, j < (o :: rest).length → (o :: rest)[j]? = l[k + j]?) : l[k]? = some o ∧ ∀ j : Nat, j < rest.length → rest[j]? = l[(k + 1) + j]? := by
 refine ⟨by simpa using (hl 0 (by simp)).symm, fun j hj => ?_⟩
 have := hl (j + 1) (by simp; omega)
 simp only [List.getElem?_cons_succ] at this
 rw [this]
 congr 1
 omega

theorem dw_skip (hg : wants l E g = some false) (hd : Nat.blt d N = true) (h : DW P fl ro N S l (k + 1) rest Q ((d, undef) :: E) ds w) :
  DW P fl ro N S l k (⟨some d, op, ty, pos, aft, g⟩ :: rest) Q E ds w := by
 intro a hk hds hS hl
 obtain ⟨ho, hl'⟩ := dw_tail hl
 have hw := wanted_of (o := ⟨some d, op, ty, pos, aft, g⟩) hk hg
 rw [List.length_cons, List.range'_succ]
 refine ⟨_, ho, fun hc => ?_, fun _ => h _ (hk.put hd) (by rw [put_defers']; exact hds) hS hl'⟩
 rw [hw] at hc; cases hc

theorem dw_rd (hg : wants l E g = some true) (hf : fl ⟨some d, op, ty, pos, aft, g⟩ = true) (hx : ∀ W, S W → Ex P E op ty W v W) (hd : Nat.blt d N = true)
  (h : DW P fl ro N S l (k + 1) rest Q ((d, v) :: E) ds w) : DW P fl ro N S l k (⟨some d, op, ty, pos, aft, g⟩ :: rest) Q E ds w := by
 intro a hk hds hS hl
 obtain ⟨ho, hl'⟩ := dw_tail hl
 have hw := wanted_of (o := ⟨some d, op, ty, pos, aft, g⟩) hk hg
 rw [List.length_cons, List.range'_succ]
 refine ⟨_, ho, fun _ => .inl ⟨hf, v, fun W hW => hx W hW a.eval _ hk.hyp rfl rfl, h _ (hk.put hd) (by rw [put_defers']; exact hds) hS hl'⟩, fun hc => ?_⟩
 rw [hw] at hc; cases hc

theorem dw_ex (hg : wants l E g = some true) (hf : fl ⟨some d, op, ty, pos, aft, g⟩ = false) (hx : Ex P E op ty w v w') (hS' : S w') (hd : Nat.blt d N = true)
  (h : DW P fl ro N S l (k + 1) rest Q ((d, v) :: E) ds w') : DW P fl ro N S l k (⟨some d, op, ty, pos, aft, g⟩ :: rest) Q E ds w := by
 intro a hk hds hS hl
 obtain ⟨ho, hl'⟩ := dw_tail hl
 have hw := wanted_of (o := ⟨some d, op, ty, pos, aft, g⟩) hk hg
 rw [List.length_cons, List.range'_succ]
 refine ⟨_, ho, fun _ => .inr ⟨hf, ?_⟩, fun hc => ?_⟩
 ·unfold Eff
  rw [hx a.eval ⟨some d, op, ty, pos, aft, g⟩ hk.hyp rfl rfl]
  exact ⟨hS', h _ (hk.put hd) (by rw [put_defers']; exact hds) hS' hl'⟩
 ·rw [hw] at hc; cases hc

theorem dw_eu (hg : wants l E g = some true) (hf : fl ⟨none, op, ty, pos, aft, g⟩ = false) (hx : Eu P E op ty w w') (hS' : S w')
  (h : DW P fl ro N S l (k + 1) rest Q E ds w') : DW P fl ro N S l k (⟨none, op, ty, pos, aft, g⟩ :: rest) Q E ds w := by
 intro a hk hds hS hl
 obtain ⟨ho, hl'⟩ := dw_tail hl
 have hw := wanted_of (o := ⟨none, op, ty, pos, aft, g⟩) hk hg
 rw [List.length_cons, List.range'_succ]
 refine ⟨_, ho, fun _ => .inr ⟨hf, ?_⟩, fun hc => ?_⟩
 ·unfold Eff
  rw [hx a.eval ⟨none, op, ty, pos, aft, g⟩ hk.hyp rfl rfl]
  exact ⟨hS', h _ hk.putNone hds hS' hl'⟩
 ·rw [hw] at hc; cases hc

theorem dw_call {f : FuncId} {args : Array Value} (hg : wants l E g = some true) (hf : fl ⟨some d, op, ty, pos, aft, g⟩ = false) (hx : Ec P E op ty w f args) (hd : Nat.blt d N = true)
  (h : Calls P f args w fun e w' => ∃ v, e = .returned v ∧ S w' ∧ DW P fl ro N S l (k + 1) rest Q ((d, v) :: E) ds w') :
  DW P fl ro N S l k (⟨some d, op, ty, pos, aft, g⟩ :: rest) Q E ds w := by
 intro a hk hds hS hl
 obtain ⟨ho, hl'⟩ := dw_tail hl
 have hw := wanted_of (o := ⟨some d, op, ty, pos, aft, g⟩) hk hg
 rw [List.length_cons, List.range'_succ]
 refine ⟨_, ho, fun _ => .inr ⟨hf, ?_⟩, fun hc => ?_⟩
 ·unfold Eff
  rw [hx a.eval ⟨some d, op, ty, pos, aft, g⟩ hk.hyp rfl rfl]
  exact h.mono fun e w' ⟨v, he, hS', h'⟩ => ⟨v, he, hS', h' _ (hk.put hd) (by rw [put_defers']; exact hds) hS' hl'⟩
 ·rw [hw] at hc; cases hc

theorem d_p {tt : Nat → Option TI} [TT P tt] (hg : wants l E g = some true) (hx : pev tt E op = some v) (hf : fl ⟨some d, op, ty, pos, aft, g⟩ = true) (hd : Nat.blt d N = true)
  (h : DW P fl ro N S l (k + 1) rest Q ((d, v) :: E) ds w) : DW P fl ro N S l k (⟨some d, op, ty, pos, aft, g⟩ :: rest) Q E ds w :=
 dw_rd hg hf (fun W _ => pev_sound hx W) hd h
theorem d_c {tt : Nat → Option TI} [TT P tt] {c : Prop} (hg : wants l E g = some true) (hx : pevc tt E op = some (c, v)) (hf : fl ⟨some d, op, ty, pos, aft, g⟩ = true) (hd : Nat.blt d N = true) (hc : c)
  (h : DW P fl ro N S l (k + 1) rest Q ((d, v) :: E) ds w) : DW P fl ro N S l k (⟨some d, op, ty, pos, aft, g⟩ :: rest) Q E ds w :=
 dw_rd hg hf (fun W _ => pevc_sound hx hc W) hd h
theorem d_ix {tt : Nat → Option TI} [TT P tt] (i' : Nat) {b o n s : Nat} {i : Int} (hg : wants l E g = some true) (hx : ixv tt E op = some (b, o, n, i, s)) (hf : fl ⟨some d, op, ty, pos, aft, g⟩ = true) (hd : Nat.blt d N = true) (hi : i = (i' : Int)) (hk : i' < n)
  (h : DW P fl ro N S l (k + 1) rest Q ((d, .pointer (some ⟨b, o + mulz i' s, none⟩)) :: E) ds w) : DW P fl ro N S l k (⟨some d, op, ty, pos, aft, g⟩ :: rest) Q E ds w :=
 dw_rd hg hf (fun W _ => ixv_sound hx hi hk W) hd h
theorem d_know (i : Nat) {u : Value} (v : Value) (hl : look E i = some u) (he : u = v) (h : DW P fl ro N S l k rest Q ((i, v) :: E) ds w) : DW P fl ro N S l k rest Q E ds w := fun a hk hd => h a (hk.know hl he) hd
theorem d_split (i : Nat) {b : Bool} (hl : look E i = some (.bool b)) (ht : b = true → DW P fl ro N S l k rest Q ((i, .bool true) :: E) ds w) (hf : b = false → DW P fl ro N S l k rest Q ((i, .bool false) :: E) ds w) :
  DW P fl ro N S l k rest Q E ds w := by
 cases b with
 | true => exact d_know i _ hl rfl (ht rfl)
 | false => exact d_know i _ hl rfl (hf rfl)
theorem d_if (i : Nat) {p : Prop} [Decidable p] (hl : look E i = some (.bool (decide p))) (ht : p → DW P fl ro N S l k rest Q ((i, .bool true) :: E) ds w) (hf : ¬ p → DW P fl ro N S l k rest Q ((i, .bool false) :: E) ds w) :
  DW P fl ro N S l k rest Q E ds w := d_split i hl (fun h => ht (of_decide_eq_true h)) (fun h => hf (of_decide_eq_false h))
end

end Go.Eng
namespace Go.Eng
open Go Go.RowKit

theorem Fr.putObj (w : World) (r : Nat) (o : Obj) : Fr (· = r) w (w.putObj r o) :=
 ⟨rfl, rfl, rfl, by simp [World.putObj], fun k _ hne => World.putObj_heap_other hne⟩

def Yld (P : Program) (l : Nat) (args : Array Value) (W : World) (R : Ending → World → Prop) : Prop :=
 ∃ fn tmps assign body, (Instr.yield l args).run P W = .ok (.round l fn tmps assign body) W ∧ RoundIn (FR none) 0 P l fn tmps assign body W R

theorem Yld.mono {P : Program} {l : Nat} {args : Array Value} {W : World} {R R' : Ending → World → Prop} (h : Yld P l args W R) (hr : ∀ e w', R e w' → R' e w') : Yld P l args W R' :=
 let ⟨fn, tmps, assign, body, h1, h2⟩ := h
 ⟨fn, tmps, assign, body, h1, h2.mono hr⟩

def yieldOf (E : List (Nat × Value)) : Op → Option (Nat × List Value)
 | .call { callee := .value f, args := xs, argTypes := _ } => match ev E f, evs E xs.toList with
  | some (.func (.yield k) ⟨[]⟩ ⟨[]⟩), some vs => some (k, vs)
  | _, _ => none
 | _ => none

theorem run_yieldOf {P : Program} {E : List (Nat × Value)} {op : Op} {w : World} {k : Nat} {vs : List Value} (h : yieldOf E op = some (k, vs)) (ρ : Operand → Value) (o : Oper)
  (hρ : ∀ x u, ev E x = some u → ρ x = u) (ho : o.op = op) : (execOp ρ o).run P w = (Instr.yield k vs.toArray).run P w := by
 unfold yieldOf at h
 split at h
 ·rename_i fo xs at'
  split at h
  ·rename_i k vs' h1 h2
   simp only [Option.some.injEq, Prod.mk.injEq] at h
   obtain ⟨rfl, rfl⟩ := h
   have e1 := hρ _ _ h1
   have e4 : xs.map ρ = vs'.toArray := by
    apply Array.ext'
    simpa using evs_map hρ _ _ h2
   simp [execOp, ho, resolve, e1, e4, Deferred.ofValue, invoke]
  ·cases h
 ·cases h

section
variable {P : Program} {ro : Option Nat} {N : Nat} {l rest : List Oper} {Q : Exit → Act → World → Prop} {E : List (Nat × Value)} {ds : List Deferred} {w w' : World}
 {d : Nat} {op : Op} {ty : TypeId} {pos : String} {aft : Array Edge} {g : Option (Nat × Bool)} {v : Value}

variable {fl : Oper → Bool} {S : World → Prop} {k : Nat}
theorem dw_yield {m : Nat} {vs : List Value} (hg : wants l E g = some true) (hf : fl ⟨some d, op, ty, pos, aft, g⟩ = false) (hx : yieldOf E op = some (m, vs)) (hd : Nat.blt d N = true)
  (h : Yld P m vs.toArray w fun e w' => ∃ v, e = .returned v ∧ S w' ∧ DW P fl ro N S l (k + 1) rest Q ((d, v) :: E) ds w') :
  DW P fl ro N S l k (⟨some d, op, ty, pos, aft, g⟩ :: rest) Q E ds w := by
 intro a hk hds hS hl
 obtain ⟨ho, hl'⟩ := dw_tail hl
 have hw := wanted_of (o := ⟨some d, op, ty, pos, aft, g⟩) hk hg
 rw [List.length_cons, List.range'_succ]
 obtain ⟨fn, tmps, assign, body, hr, hR⟩ := h
 have hr' := run_yieldOf (P := P) (w := w) hx a.eval ⟨some d, op, ty, pos, aft, g⟩ hk.hyp rfl
 rw [hr] at hr'
 refine ⟨_, ho, fun _ => .inr ⟨hf, ?_⟩, fun hc => ?_⟩
 ·unfold Eff
  rw [hr']
  exact (show RoundIn (FR ro) 0 P m fn tmps assign body w _ from hR).mono fun e w' ⟨v, he, hS', h'⟩ => ⟨v, he, hS', h' _ (hk.put hd) (by rw [put_defers']; exact hds) hS' hl'⟩
 ·rw [hw] at hc; cases hc

def ezip : List Nat → List Value → List (Nat × Value) → List (Nat × Value)
 | p :: ps, v :: vs, E => ezip ps vs ((p, v) :: E)
 | _, _, E => E

theorem Kn.zip {N : Nat} : ∀ (ps : List Nat) (vs : List Value) (E : List (Nat × Value)) (T : Array Value), (∀ p ∈ ps, p < N) → Kn N E ⟨T, []⟩ →
  Kn N (ezip ps vs E) ⟨(ps.zip vs).foldl (fun t (p : Nat × Value) => t.setIfInBounds p.1 p.2) T, []⟩ := by
 intro ps
 induction ps with
 | nil => intro vs E T _ h; simpa [ezip] using h
 | cons p ps ih =>
  intro vs E T hp h
  cases vs with
  | nil => simpa [ezip] using h
  | cons v vs =>
   simp only [ezip, List.zip_cons_cons, List.foldl_cons]
   refine ih vs _ _ (fun q hq => hp q (List.mem_cons_of_mem _ hq)) ?_
   have := h.put (d := p) (v := v) (by simpa [Nat.blt] using Nat.ble_eq_true_of_le (hp p List.mem_cons_self))
   exact this

def Asg (P : Program) (l : Nat) (body : Code) (R : Ending → World → Prop) : Exit → Act → World → Prop :=
 Exit.then (fun a1 w1 => ∃ w2, (Instr.beginRound l).run P w1 = .ok () w2 ∧ body.wpIn (FR (some l)) 0 P (roundPost P l R) a1 w2) (fun _ _ _ => False)

theorem yield_of {m : Nat} {r : Loop} {vs : List Value} {R : Ending → World → Prop} (hl : w.heap[m]? = some (.loop r)) (hsz : vs.length = r.params.size) (hp : ∀ p ∈ r.params.toList, p < N)
  (hk : Kn N E ⟨r.tmps, []⟩) (h : CW P (some m) N r.assign (Asg P m r.body R) (ezip r.params.toList vs E) [] w) : Yld P m vs.toArray w R := by
 have hy := run_yield (P := P) (args := vs.toArray) hl (by simpa using hsz)
 refine ⟨_, _, _, _, hy, ?_⟩
 have e : (r.params.zip vs.toArray).foldl (fun tmps (x : Nat × Value) => tmps.setIfInBounds x.1 x.2) r.tmps = (r.params.toList.zip vs).foldl (fun t (p : Nat × Value) => t.setIfInBounds p.1 p.2) r.tmps := by
  rw [← Array.foldl_toList]
  simp
 refine roundIn_of_wpIn (F := FR none) trivial ?_
 rw [e]
 exact h _ (Kn.zip _ _ _ _ hp hk) rfl

theorem pn_asg {m : Nat} {r : Loop} {body : Code} {R : Ending → World → Prop} (hl : w.heap[m]? = some (.loop r)) (hst : r.state = .ready)
  (h : CW P (some m) N body (roundPost P m R) E ds (w.putObj m (.loop { r with state := .busy }))) : PN N (Asg P m body R) .normal E ds w :=
 fun a hk hd => ⟨_, run_beginRound hl hst, h a hk hd⟩

theorem pn_round_go {m : Nat} {r : Loop} {R : Ending → World → Prop} (hl : w.heap[m]? = some (.loop r))
  (h : R (.returned (.bool true)) (w.putObj m (.loop { r with state := .ready, pending := none }))) : PN N (roundPost P m R) .normal E ds w :=
 fun _ _ _ => ⟨_, _, run_endRound none hl, h⟩
def markOf (D : Nat) : Deferred := { target := .collected D, args := #[] }

theorem cw_rangeFunc {go : Operand} {ps : Array Tmp} {assign body : Code} {gf : FuncId} {caps : List Value} (hg : ev E go = some (.func (.func gf) ⟨[]⟩ ⟨caps⟩)) [hb : Bodied P gf]
  (h : ∀ (r : Loop), r.state = .ready → r.pending = none → r.params = ps → r.assign = assign → r.body = body → r.defers = w.heap.size → Kn N E ⟨r.tmps, []⟩ →
   Calls P gf ((.func (.yield (w.heap.size + 1)) #[] #[]) :: caps).toArray ((w.alloc (.deferred (some []))).alloc (.loop r)) fun e w3 =>
    (∃ v, e = .returned v) ∧ ∃ r' : Loop, w3.heap[w.heap.size + 1]? = some (.loop r') ∧ r'.state ≠ .busy ∧
     (match r'.pending with
      | none => PN N Q .normal E (markOf w.heap.size :: ds) (w3.putObj (w.heap.size + 1) (.loop { r' with state := .exhausted }))
      | some c => CW P none N c Q E (markOf w.heap.size :: ds) (w3.putObj (w.heap.size + 1) (.loop { r' with state := .exhausted })))) :
  CW P none N (.rangeFunc go ps assign body) Q E ds w := by
 intro a hk hd
 refine wpIn_rangeFunc (F := FR none) ?_
 intro fn _
 have hgv := hk.ev hg
 refine ⟨w.heap.size + 1, [markOf w.heap.size], ((w.alloc (.deferred (some []))).alloc (.loop { state := .ready, pending := none, fn, tmps := a.tmps, params := ps, assign, body, defers := w.heap.size })), { target := .fn (.func gf) ⟨caps⟩, args := #[.func (.yield (w.heap.size + 1)) #[] #[]] }, ((w.alloc (.deferred (some []))).alloc (.loop { state := .ready, pending := none, fn, tmps := a.tmps, params := ps, assign, body, defers := w.heap.size })), gf, ((.func (.yield (w.heap.size + 1)) #[] #[]) :: caps).toArray, ((w.alloc (.deferred (some []))).alloc (.loop { state := .ready, pending := none, fn, tmps := a.tmps, params := ps, assign, body, defers := w.heap.size })),
  run_enterLoop_outer fn a.tmps ps assign body, ?_, fun f' _ => trivial, ?_, fun h => by simp [Fence.wide] at h, ?_⟩
 ·simp only [resolve, hgv]
  simp [Deferred.ofValue, Act.eval]
 ·have := hb.run ((.func (.yield (w.heap.size + 1)) #[] #[]) :: caps).toArray ((w.alloc (.deferred (some []))).alloc (.loop { state := .ready, pending := none, fn, tmps := a.tmps, params := ps, assign, body, defers := w.heap.size }))
  simpa [invoke] using this
 ·refine (calls_FR (h { state := .ready, pending := none, fn, tmps := a.tmps, params := ps, assign, body, defers := w.heap.size } rfl rfl rfl rfl rfl rfl ⟨hk.1, hk.2⟩)).mono ?_
  rintro e w3 ⟨⟨v, rfl⟩, r', hl, hst, hm⟩
  refine ⟨_, _, run_endLoop hl hst, ?_⟩
  have hk' : Kn N E { a with defers := [markOf w.heap.size] ++ a.defers } := ⟨hk.1, hk.2⟩
  have hd' : ({ a with defers := [markOf w.heap.size] ++ a.defers } : Act).defers = markOf w.heap.size :: ds := by simp [hd]
  cases hp : r'.pending with
  | none => rw [hp] at hm; exact hm _ hk' hd'
  | some c => rw [hp] at hm; exact hm _ hk' hd'

theorem enterM {P : Program} {f : FuncId} {fn : Func} {c : Code} {args : List Value} {w : World} {R : Ending → World → Prop} (hf : P.funcs[f]? = some fn) (hb : fn.body = some c)
  (hn : Nat.ble args.length fn.ntmps = true) (h : CW P none fn.ntmps c (bodyPostM (FR none) 0 P fn R) (ents 0 args) [] w) : Calls P f args.toArray w R := by
 refine calls_of_FR (ro := none) (n := 0) (callsIn_of_wp_marks hf hb trivial ?_ rfl)
 have hn := Nat.le_of_ble_eq_true hn
 refine h _ ⟨by simp; omega, fun i v hi => ?_⟩ rfl
 obtain ⟨_, h2⟩ := look_ents _ _ _ _ hi
 simp only [Nat.sub_zero] at h2
 have hlt : i < args.length := (List.getElem?_eq_some_iff.1 h2).1
 rw [List.getElem?_eq_getElem hlt] at h2
 simp only [Option.some.injEq] at h2
 simp [Array.getElem?_append, hlt, h2]
theorem enterM3 {P : Program} {f : FuncId} {fn : Func} {c : Code} {v0 v1 v2 : Value} {w : World} {R : Ending → World → Prop} (hf : P.funcs[f]? = some fn) (hb : fn.body = some c)
  (hn : Nat.ble 3 fn.ntmps = true) (h : CW P none fn.ntmps c (bodyPostM (FR none) 0 P fn R) [(0, v0), (1, v1), (2, v2)] [] w) : Calls P f #[v0, v1, v2] w R := enterM (args := [v0, v1, v2]) hf hb hn h

theorem pn_retM {fn : Func} {R : Ending → World → Prop} {t D : Nat} (hr : fn.results = #[.tmp t]) (hv : look E t = some v) (hD : w.heap[D]? = some (.deferred (some [])))
  (h : R (.returned v) (w.putObj D (.deferred none))) : PN N (bodyPostM (FR none) 0 P fn R) .ret E [markOf D] w := by
 intro a hk hd
 have := hk.2 _ _ hv
 show LeavesInM (FR none) 0 P fn a.tmps R a.defers .returning w
 rw [hd]
 refine ⟨by simp, .inl ⟨D, _, rfl, run_takeDeferred hD, ?_⟩⟩
 refine ⟨v, ?_, h⟩
 simp [results, hr, Array.getD_eq_getD_getElem?, this]
end
end Go.Eng
namespace Go.Eng
open Go Go.RowKit

def pevw (E : List (Nat × Value)) : Op → Option Value
 | .binOp .add _ x y _ => match ev E x, ev E y with
  | some (.int k a), some (.int k' b) => match ikb k k' with
   | true => some (.int k (k.wrap (a + b)))
   | false => none
  | _, _ => none
 | .binOp .sub _ x y _ => match ev E x, ev E y with
  | some (.int k a), some (.int k' b) => match ikb k k' with
   | true => some (.int k (k.wrap (a - b)))
   | false => none
  | _, _ => none
 | .binOp .mul _ x y _ => match ev E x, ev E y with
  | some (.int k a), some (.int k' b) => match ikb k k' with
   | true => some (.int k (k.wrap (a * b)))
   | false => none
  | _, _ => none
 | _ => none
def places (tt : Nat → Option TI) : List (Nat × Nat) → Option (List (Nat × Nat))
 | [] => some []
 | (t, o) :: fs => match tt t, places tt fs with
  | some i, some l => some ((o, i.size) :: l)
  | _, _ => none
def evp (E : List (Nat × Value)) : List (Nat × Operand) → Option (List (Nat × Value))
 | [] => some []
 | (k, x) :: l => match ev E x, evp E l with
  | some v, some r => some ((k, v) :: r)
  | _, _ => none
def pevb (tt : Nat → Option TI) (E : List (Nat × Value)) : Op → Option Value
 | .build t ⟨parts⟩ => match tt t with
  | some ⟨.struct _, _, _, .agg ⟨zs⟩, fs⟩ => match places tt fs, evp E parts with
   | some pl, some vs => match fillL (nth pl) zs vs with
    | some cs => some (.agg ⟨cs⟩)
    | none => none
   | _, _ => none
  | some ⟨.array _ e, _, _, .agg ⟨zs⟩, _⟩ => match tt e, evp E parts with
   | some i, some vs => match fillL (fun k => some (k * i.size, i.size)) zs vs with
    | some cs => some (.agg ⟨cs⟩)
    | none => none
   | _, _ => none
  | _ => none
 | _ => none
theorem evp_map {E : List (Nat × Value)} {ρ : Operand → Value} (hρ : ∀ x u, ev E x = some u → ρ x = u) : ∀ (l : List (Nat × Operand)) (vs : List (Nat × Value)), evp E l = some vs → l.map (fun p => (p.1, ρ p.2)) = vs
 | [], vs, h => by simp [evp] at h; simp [h]
 | (k, x) :: l, vs, h => by
  simp only [evp] at h
  split at h
  ·rename_i v r h1 h2
   cases h
   simp [hρ _ _ h1, evp_map hρ l r h2]
  ·cases h
theorem places_run {P : Program} {tt : Nat → Option TI} [TT P tt] (w : World) : ∀ (fs : List Field) (pl : List (Nat × Nat)), places tt (fs.map fun f => (f.type, f.offset)) = some pl →
  (fs.mapM fun f => do pure (f.offset, ← sizeOf f.type) : Sem (List (Nat × Nat))).run P w = .ok pl w
 | [], pl, h => by simp [places] at h; simp [h]
 | f :: fs, pl, h => by
  simp only [List.map_cons, places] at h
  split at h
  ·rename_i i l h1 h2
   cases h
   simp only [List.mapM_cons, Sem.run_bind, TT.run_size h1, Result.andThen, Sem.run_pure, places_run w fs l h2]
  ·cases h
theorem pevb_sound {P : Program} {tt : Nat → Option TI} [TT P tt] {E : List (Nat × Value)} {op : Op} {ty : TypeId} {v : Value} (h : pevb tt E op = some v) : Pu P E op ty v := by
 intro w ρ o hρ ho _
 unfold pevb at h
 split at h
 ·rename_i t parts
  have hp : ∀ vs, evp E parts = some vs → Array.toList (Array.map (fun x => (x.fst, ρ x.snd)) ⟨parts⟩) = vs := fun vs hv => by
   have := evp_map hρ parts vs hv
   simpa using this
  split at h
  ·rename_i h1
   split at h
   ·rename_i pl vs h2 h3
    split at h
    ·rename_i cs h4
     cases h
     obtain ⟨fa, hf1, hf2⟩ := TT.run_st (P := P) h1 rfl
     simp only at hf2
     rw [← hf2] at h2
     have h5 := places_run (P := P) w fa.toList pl h2
     have h6 := fill_of h4
     have hm : (fa.mapM fun f => do pure (f.offset, ← sizeOf f.type) : Sem (Array (Nat × Nat))).run P w = .ok pl.toArray w := by
      rw [Array.mapM_eq_mapM_toList]
      show Sem.run P ((fa.toList.mapM fun f => do pure (f.offset, ← sizeOf f.type) : Sem (List (Nat × Nat))) >>= fun l => pure l.toArray) w = _
      rw [Sem.run_bind, h5]
      rfl
     have e7 : (nth pl) = fun k => pl[k]? := by funext k; exact nth_eq pl k
     rw [e7] at h6
     simp only [execOp, ho, Instr.build, Sem.run_bind, TT.run_zero h1, hf1, Result.andThen, hm, hp _ h3, Value.cells]
     simp only [List.getElem?_toArray, h6, Sem.run_pure]
    ·cases h
   ·cases h
  ·rename_i h1
   split at h
   ·rename_i i vs h2 h3
    split at h
    ·rename_i cs h4
     cases h
     have h6 := fill_of h4
     simp only [execOp, ho, Instr.build, Sem.run_bind, TT.run_zero h1, TT.run_und h1 rfl, TT.run_size h2, Result.andThen, hp _ h3, Value.cells, h6, Sem.run_pure]
    ·cases h
   ·cases h
  ·cases h
 ·cases h

section
variable {P : Program} {tt : Nat → Option TI} [TT P tt] {ro : Option Nat} {N k : Nat} {l rest : List Oper} {Q : Exit → Act → World → Prop} {E : List (Nat × Value)} {ds : List Deferred} {w w' : World} {fl : Oper → Bool} {S : World → Prop}
 {d : Nat} {op : Op} {ty : TypeId} {pos : String} {aft : Array Edge} {g : Option (Nat × Bool)} {v : Value}
theorem o_b (hg : wants l E g = some true) (hx : pevb tt E op = some v) (hd : Nat.blt d N = true) (h : OW P ro N l rest Q ((d, v) :: E) ds w) :
  OW P ro N l (⟨some d, op, ty, pos, aft, g⟩ :: rest) Q E ds w := ow_pu hg (pevb_sound hx) hd h
class EqT (P : Program) (t : Nat) : Prop where
 guard : P.eqGuardType P.depth t = false
theorem pu_eqA {t t' : Nat} {x y : Operand} {cx cy : Array Value} {r : Bool} [he : EqT P t] (hx : ev E x = some (.agg cx)) (hy : ev E y = some (.agg cy))
  (hr : ∀ w, (Op.equalIn 10000 t (.agg cx) (.agg cy)).run P w = .ok r w) : Pu P E (.binOp .eql t x y t') ty (.bool r) := by
 intro w ρ o hρ ho _
 simp [execOp, ho, hρ _ _ hx, hρ _ _ hy, run_eqGuard_agg w .eql t x y cx cy he.guard, run_eql_struct, hr, Result.andThen]
theorem pu_neA {t t' : Nat} {x y : Operand} {cx cy : Array Value} {r : Bool} [he : EqT P t] (hx : ev E x = some (.agg cx)) (hy : ev E y = some (.agg cy))
  (hr : ∀ w, (Op.equalIn 10000 t (.agg cx) (.agg cy)).run P w = .ok r w) : Pu P E (.binOp .neq t x y t') ty (.bool (!r)) := by
 intro w ρ o hρ ho _
 simp [execOp, ho, hρ _ _ hx, hρ _ _ hy, run_eqGuard_agg w .neq t x y cx cy he.guard, run_neq_struct, hr, Result.andThen]

theorem ow_make {t e base n sz s1 s2 : Nat} {z1 : Value} {f1 : List (Nat × Nat)} {i : TI} {x y : Operand} {m : Int} (hg : wants l E g = some true) (hd : Nat.blt d N = true) (hop : op = .makeSlice t x y)
  (ht : tt t = some ⟨.slice e, s1, s2, z1, f1⟩) (he : tt e = some i) (hi : (Nat.beq i.size sz && Nat.ble i.bytes 2097152) = true)
  (hx : ev E x = some (.int .i64 m)) (hy : ev E y = some (.int .i64 m)) (hm : m = (n : Int)) (hn : n ≤ 67108864) (hbase : base ≤ w.heap.size)
  (h : ∀ w', Mine w' base e sz (.slice (some ⟨w.heap.size, 0, none⟩) n n) n (madeCells i.zero.cells (n * sz)).toList → Ext w w' → OW P ro N l rest Q ((d, .slice (some ⟨w.heap.size, 0, none⟩) n n) :: E) ds w') :
  OW P ro N l (⟨some d, op, ty, pos, aft, g⟩ :: rest) Q E ds w := by
 simp only [Bool.and_eq_true] at hi
 obtain ⟨hi, hb⟩ := hi
 have hi := Nat.eq_of_beq_eq_true hi
 have hb := Nat.le_of_ble_eq_true hb
 subst hi
 subst hm
 obtain ⟨j, hj, h2, h3, h4⟩ := TT.info (P := P) e i he
 have hbytes : j.bytes * n ≤ 281474976710656 := by rw [h3]; exact Nat.le_trans (Nat.mul_le_mul hb hn) (by decide)
 obtain ⟨w', hrun, ho, hgr⟩ := run_make_full (P := P) w base t e j i.zero i.size (TT.und (P := P) t _ ht rfl) hj h4 h2 .i64 .i64 n hbytes (by unfold maxLen; omega) hbase
 refine ow_ex hg ?_ hd (h w' ho ((Fr.grown hgr).mono fun k _ hk => by cases hk))
 intro ρ o hρ hop' _
 subst hop
 simp [execOp, hop', hρ _ _ hx, hρ _ _ hy, hrun]
end

theorem Fr.setRow (w : World) (g : Nat) (cs : Array Value) : Fr (· = g) w (w.setRow g cs) :=
 ⟨rfl, rfl, rfl, by simp [World.setRow], fun k _ hne => by simp only [World.setRow, Array.getElem?_modify]; rw [if_neg (fun e => hne e.symm)]⟩
theorem Blk.setRow {w : World} {g t : Nat} {cs ds : List Value} (h : Blk w g t cs) : Blk (w.setRow g ds.toArray) g t ds := setRow_heap w g cs.toArray ds.toArray t (0, 0) h

section
variable {P : Program} {tt : Nat → Option TI} [TT P tt] {E : List (Nat × Value)} {ty : TypeId} {w : World}
theorem eu_storeRow {t b off t0 : Nat} {x y : Operand} {i : TI} {v : Value} {cur : Array Value} {vs : List Value} (ht : tt t = some i) (hx : ev E x = some (.pointer (some ⟨b, off, none⟩))) (hy : ev E y = some v)
  (hvs : v.cells.toList = vs) (hs : Nat.beq vs.length i.size = true) (h1 : ∀ u ∈ vs, u.oneCell' = true) (hb : w.heap[b]? = some (.cells cur t0 (0, 0))) (hfit : off + vs.length ≤ cur.size) :
  Eu P E (.store t x y) ty w (w.setRow b (spl cur.toList off vs).toArray) := by
 intro ρ o hρ ho _
 have hs := Nat.eq_of_beq_eq_true hs
 have hst := run_storeCells_at P b off t0 vs 0 cur w hb (by simpa using hfit) h1
 have hz : v.cells.size = i.size := by rw [← Array.length_toList, hvs, hs]
 simp only [execOp, ho, Instr.storeAt, Instr.sureAddr, storeVar, hρ _ _ hx, hρ _ _ hy, Sem.run_bind, Sem.run_pure, Result.andThen, TT.run_size ht, hz, hvs]
 simp only [Nat.add_zero] at hst
 simp [hst, spl]
theorem eu_storeB {t b off t0 : Nat} {x y : Operand} {i : TI} {v : Value} {cs vs : List Value} (ht : tt t = some i) (hx : ev E x = some (.pointer (some ⟨b, off, none⟩))) (hy : ev E y = some v)
  (hvs : v.cells.toList = vs) (hs : Nat.beq vs.length i.size = true) (h1 : ∀ u ∈ vs, u.oneCell' = true) (hb : Blk w b t0 cs) (hfit : Nat.ble (off + vs.length) cs.length = true) :
  Eu P E (.store t x y) ty w (w.setRow b (spl cs off vs).toArray) := by
 have := eu_storeRow (P := P) (ty := ty) (cur := cs.toArray) ht hx hy hvs hs h1 hb (by simpa using Nat.le_of_ble_eq_true hfit)
 simpa using this
end

theorem Mine.row {w : World} {base e sz n : Nat} {v : Value} {cs : List Value} (h : Mine w base e sz v n cs) (hn : 0 < n) : ∃ g cap cur, v = .slice (some ⟨g, 0, none⟩) n cap ∧ base ≤ g ∧ g < w.heap.size ∧ w.heap[g]? = some (.cells cur e (0, 0)) ∧ cs.length ≤ cur.size ∧ cur.toList.take cs.length = cs := by
 rcases h.2 with ⟨_, rfl⟩ | ⟨g', cap', cur', rfl, hb, hg', hnc, hcm, hcs, htake⟩
 ·omega
 ·rw [← h.1] at htake
  refine ⟨g', cap', cur', rfl, hb, (Array.getElem?_eq_some_iff.1 hg').1, hg', ?_, htake⟩
  rw [← htake]; simp; omega

theorem Mine.weaken {w : World} {base base' e sz n : Nat} {v : Value} {cs : List Value} (h : Mine w base e sz v n cs) (hb : base' ≤ base) : Mine w base' e sz v n cs := by
 refine ⟨h.1, ?_⟩
 rcases h.2 with hn | ⟨g, cap, cur, rfl, hb', rest⟩
 ·exact .inl hn
 ·exact .inr ⟨g, cap, cur, rfl, by omega, rest⟩
theorem Mine.nil (w : World) (base e sz : Nat) : Mine w base e sz (.slice none 0 0) 0 [] := ⟨by simp, .inl ⟨rfl, rfl⟩⟩
theorem Blk.sl {w : World} {g t sz n : Nat} {cs : List Value} (h : Blk w g t cs) (hn : cs.length = n * sz) (hm : n ≤ 67108864) : SL w sz (.slice (some ⟨g, 0, none⟩) n n) n cs :=
 ⟨_, n, rfl, hn, Nat.le_refl _, by unfold maxLen; omega, by simp, fun _ => ⟨g, 0, rfl, h.lt, fun j _ => by rw [Nat.zero_add]; exact h.cell j⟩⟩
section
variable {P : Program} {tt : Nat → Option TI} [TT P tt] {N : Nat} {E : List (Nat × Value)} {w : World} {fn : Func} {R : Ending → World → Prop}
theorem loadVar_agg {t b off : Nat} {i : TI} {cs : List Value} (ht : tt t = some i) (hagg : aggT i.desc = true) (hn : Nat.beq cs.length i.size = true) (hc : ∀ j, j < cs.length → w.cell? ⟨b, off + j, none⟩ = cs[j]?) :
  (loadVar t ⟨b, off, none⟩).run P w = .ok (.agg cs.toArray) w := by
 have hn := Nat.eq_of_beq_eq_true hn
 have h2 := run_loadCells_list (P := P) w ⟨b, off, none⟩ cs (fun j v hj => by
  have hlt : j < cs.length := (List.getElem?_eq_some_iff.1 hj).1
  have ha : (⟨b, off, none⟩ : Addr).add j = ⟨b, off + j, none⟩ := by unfold Addr.add; split <;> simp_all
  rw [ha, hc j hlt, hj])
 simp [loadVar, run_isAgg ht, hagg, TT.run_size ht, ← hn, h2]
theorem pn_retC {t ct b : Nat} {i : TI} {cs : List Value} (hr : fn.results = #[.cell t ct]) (hv : look E t = some (.pointer (some ⟨b, 0, none⟩))) (ht : tt ct = some i) (hagg : aggT i.desc = true) (hn : Nat.beq cs.length i.size = true)
  {t0 : Nat} (hb : Blk w b t0 cs) (h : R (.returned (.agg cs.toArray)) w) : PN N (bodyPost P fn R) .ret E [] w := by
 intro a hk hd
 refine ⟨hd, .agg cs.toArray, ?_, h⟩
 have := hk.2 _ _ hv
 have h2 := loadVar_agg (P := P) (w := w) (b := b) (off := 0) ht hagg hn (fun j _ => by rw [Nat.zero_add]; exact hb.cell j)
 simp [results, hr, Array.getD_eq_getD_getElem?, this, asAddr, h2]
end
def enum : Nat → List Value → List (Nat × Value)
 | _, [] => []
 | k, v :: vs => (k, v) :: enum (k + 1) vs
theorem fill_enum : ∀ (us : List Value) (k : Nat) (z : List Value), z.length = k + us.length → (∀ u ∈ us, u.oneCell' = true) → fillL (fun j => some (j * 1, 1)) z (enum k us) = some (z.take k ++ us)
 | [], k, z, hz, _ => by simp at hz; simp [enum, fillL, ← hz]
 | u :: us, k, z, hz, h1 => by
  have hu : u.cells.toList = [u] := by have := h1 u (by simp); cases u <;> first | rfl | (simp [Value.oneCell'] at this)
  have hs : u.cells.size = 1 := by rw [← Array.length_toList, hu]; rfl
  simp only [List.length_cons] at hz
  have e1 : Nat.beq u.cells.size 1 = true := by rw [hs]; rfl
  have e2 : Nat.ble (k * 1 + 1) z.length = true := Nat.ble_eq_true_of_le (by omega)
  simp only [enum, fillL, e1, e2, hu, Nat.mul_one]
  have hl : (spl z k [u]).length = k + 1 + us.length := by rw [spl_length (by simp; omega)]; omega
  have ih := fill_enum us (k + 1) (spl z k [u]) hl (fun x hx => h1 x (by simp [hx]))
  simp only [Nat.mul_one] at ih
  have e3 : Nat.ble (k + 1) z.length = true := by simpa using e2
  rw [e3, ih]
  have hk : (z.take k).length = k := by simp; omega
  have : (spl z k [u]).take (k + 1) = z.take k ++ [u] := by
   have e4 : spl z k [u] = (z.take k ++ [u]) ++ z.drop (k + [u].length) := by simp [spl]
   rw [e4, List.take_left' (by simp [hk])]
  rw [this]
  simp
section
variable {P : Program} {tt : Nat → Option TI} [TT P tt] {ro : Option Nat} {N k : Nat} {l rest : List Oper} {Q : Exit → Act → World → Prop} {E : List (Nat × Value)} {ds : List Deferred} {w w' : World} {fl : Oper → Bool} {S : World → Prop}
 {d : Nat} {op : Op} {ty : TypeId} {pos : String} {aft : Array Edge} {g : Option (Nat × Bool)} {v : Value}
theorem ow_lit (us : List Value) {t len e s1 s2 : Nat} {z1 : Value} {f1 : List (Nat × Nat)} {i : TI} {parts : List (Nat × Operand)} (hg : wants l E g = some true) (hop : op = .buildSlice t len ⟨parts⟩)
  (ht : tt t = some ⟨.slice e, s1, s2, z1, f1⟩) (he : tt e = some i) (hi : Nat.beq i.size 1 = true) (hp : evp E parts = some (enum 0 us)) (hl : (Nat.beq len us.length && Nat.ble len 16777216) = true) (h1 : us.all (·.oneCell') = true) (hd : Nat.blt d N = true)
  (h : ∀ w', Blk w' w.heap.size e us → Ext w w' → OW P ro N l rest Q ((d, .slice (some ⟨w.heap.size, 0, none⟩) len len) :: E) ds w') :
  OW P ro N l (⟨some d, op, ty, pos, aft, g⟩ :: rest) Q E ds w := by
 simp only [Bool.and_eq_true] at hl
 have hl1 := Nat.eq_of_beq_eq_true hl.1
 have hl2 := Nat.le_of_ble_eq_true hl.2
 have hi := Nat.eq_of_beq_eq_true hi
 have hone := List.all_eq_true.1 h1
 have hparts : ∀ (parts : List (Nat × Operand)) (vs : List (Nat × Value)), evp E parts = some vs → (parts.map fun p => ev E p.2) = vs.map (fun p => some p.2) ∧ parts.map (·.1) = vs.map (·.1) := by
  intro parts
  induction parts with
  | nil => intro vs h; simp [evp] at h; subst h; simp
  | cons p parts ih =>
   obtain ⟨k, x⟩ := p
   intro vs h
   simp only [evp] at h
   split at h
   ·rename_i v r h1 h2
    cases h
    obtain ⟨i1, i2⟩ := ih r h2
    simp [h1, i1, i2]
   ·cases h
 obtain ⟨q1, q2⟩ := hparts _ _ hp
 subst hop
 refine ow_ex hg (ex_buildSlice (i := i) (vs := enum 0 us) (cells := us) ht he q1 q2 (by rw [hi]; omega) (fun z hz => ?_)) hd (h _ ?_ (Fr.alloc _ _))
 ·rw [hi] at hz ⊢
  have := fill_enum us 0 z (by omega) (fun u hu => hone u hu)
  simpa using this
 ·exact Blk.new w e us
theorem ow_box {t : Nat} {x : Operand} (hg : wants l E g = some true) (hop : op = .box t x) (hx : ev E x = some v) (hd : Nat.blt d N = true)
  (h : ∀ w', Blk w' w.heap.size t v.cells.toList → Ext w w' → w'.heap.size = w.heap.size + 1 → OW P ro N l rest Q ((d, .pointer (some ⟨w.heap.size, 0, none⟩)) :: E) ds w') :
  OW P ro N l (⟨some d, op, ty, pos, aft, g⟩ :: rest) Q E ds w := by
 subst hop
 exact ow_ex hg (ex_box hx) hd (h _ (by have := Blk.new w t v.cells.toList; simpa using this) (Fr.alloc _ _) (by simp))
theorem ow_new {t : Nat} {i : TI} (hg : wants l E g = some true) (hop : op = .alloc t) (ht : tt t = some i) (hd : Nat.blt d N = true)
  (h : ∀ w', Blk w' w.heap.size t i.zero.cells.toList → Ext w w' → w'.heap.size = w.heap.size + 1 → OW P ro N l rest Q ((d, .pointer (some ⟨w.heap.size, 0, none⟩)) :: E) ds w') :
  OW P ro N l (⟨some d, op, ty, pos, aft, g⟩ :: rest) Q E ds w := by
 subst hop
 exact ow_ex hg (ex_alloc ht) hd (h _ (by have := Blk.new w t i.zero.cells.toList; simpa using this) (Fr.alloc _ _) (by simp))
end
end Go.Eng
namespace Go.Eng
open Go Go.RowKit Go.ChangeShapes Go.WideShapes Go.ChangeAt

section
variable {H : Type} {enc : TypeId × Value → H} {P : Program}

theorem trodAll_below (hl : laidOutB P = true) {W W' : World} (hb : Below W.heap.size W W') : ∀ {ts : List TypeId} {vs : List Value} {ds : List (DataW H)} {ps : List MemPlace}, (ts.all fun t => P.readableRec t && decide (t < P.types.size)) = true →
  (∀ x ∈ ps, x.block < W.heap.size) → DataW.TrodAll enc P W 0 (fun _ => true) true ts vs ds ps → DataW.TrodAll enc P W' 0 (fun b => decide (b < W.heap.size)) true ts vs ds ps
 | [], vs, ds, ps, _, _, h => by
  obtain ⟨rfl, rfl, rfl⟩ := trodAll_nil h
  exact trodAll_mk0
 | t :: ts, vs, ds, ps, hr, hlt, h => by
  obtain ⟨v, vs', d, ds', p, q, rfl, rfl, rfl, hd, hrest⟩ := trodAll_cons h
  simp only [List.all_cons, Bool.and_eq_true, decide_eq_true_eq] at hr
  exact trodAll_cons_mk (Below.trod hl hr.1.1 hr.1.2 hd hb (fun x hx => hlt x (List.mem_append_left _ hx)))
   (trodAll_below hl hb (by simpa using hr.2) (fun x hx => hlt x (List.mem_append_right _ hx)) hrest)
theorem trodAll_lt {W : World} : ∀ {ts : List TypeId} {vs : List Value} {ds : List (DataW H)} {ps : List MemPlace}, DataW.TrodAll enc P W 0 (fun _ => true) true ts vs ds ps → ∀ x ∈ ps, x.block < W.heap.size
 | [], vs, ds, ps, h => by
  obtain ⟨rfl, rfl, rfl⟩ := trodAll_nil h
  simp
 | t :: ts, vs, ds, ps, h => by
  obtain ⟨v, vs', d, ds', p, q, rfl, rfl, rfl, hd, hrest⟩ := trodAll_cons h
  intro x hx
  rcases List.mem_append.1 hx with hx | hx
  ·obtain ⟨m, hm⟩ := hd; exact DataW.trod_lt m _ _ _ hm x hx
  ·exact trodAll_lt hrest x hx

variable {W : World} {base b0 : Nat} {spare : Nat → Bool} {held : Bool} {r : Reach}
end
end Go.Eng
namespace Go.Eng
open Go Go.RowKit

def Oat (w : World) (base e sz : Nat) (v : Value) (n : Nat) (cs : List Value) : Prop :=
 cs.length = n * sz ∧ ((v = .slice none 0 0 ∧ n = 0) ∨
  ∃ g off cap cur, v = .slice (some ⟨g, off, none⟩) n cap ∧ base ≤ g ∧ w.heap[g]? = some (.cells cur e (0, 0)) ∧ n ≤ cap ∧ cap ≤ maxLen ∧ off + cap * sz ≤ cur.size ∧ (cur.toList.drop off).take (n * sz) = cs)

theorem Mine.oat {w : World} {base e sz n : Nat} {v : Value} {cs : List Value} (h : Mine w base e sz v n cs) : Oat w base e sz v n cs := by
 refine ⟨h.1, h.2.imp id ?_⟩
 rintro ⟨g, cap, cur, rfl, hb, hh, hn, hc, hcur, ht⟩
 exact ⟨g, 0, cap, cur, rfl, hb, hh, hn, hc, by omega, by simpa using ht⟩
theorem Oat.nil (w : World) (base e sz : Nat) : Oat w base e sz (.slice none 0 0) 0 [] := ⟨by simp, .inl ⟨rfl, rfl⟩⟩
theorem Oat.weaken {w : World} {base base' e sz n : Nat} {v : Value} {cs : List Value} (h : Oat w base e sz v n cs) (hb : base' ≤ base) : Oat w base' e sz v n cs := by
 refine ⟨h.1, h.2.imp id ?_⟩
 rintro ⟨g, off, cap, cur, rfl, hb', rest⟩
 exact ⟨g, off, cap, cur, rfl, by omega, rest⟩
theorem Oat.sl {w : World} {base e sz n : Nat} {v : Value} {cs : List Value} (h : Oat w base e sz v n cs) : SL w sz v n cs := by
 rcases h.2 with ⟨rfl, rfl⟩ | ⟨g, off, cap, cur, rfl, hb, hh, hn, hc, hcur, ht⟩
 ·have := h.1
  simp at this
  subst this
  exact SL.nil w sz
 ·refine ⟨_, cap, rfl, h.1, hn, hc, by simp, fun _ => ⟨g, off, rfl, (Array.getElem?_eq_some_iff.1 hh).1, fun j hj => ?_⟩⟩
  rw [cell_of_row w g (off + j) cur e (0, 0) hh]
  rw [h.1] at hj
  rw [← ht, List.getElem?_take, if_pos hj, List.getElem?_drop]
  simp
theorem Oat.one {w : World} {base e sz n : Nat} {v : Value} {cs : List Value} (h : Oat w base e sz v n cs) : v.oneCell' = true := by
 rcases h.2 with ⟨rfl, _⟩ | ⟨_, _, _, _, rfl, _⟩ <;> rfl
theorem Oat.form {w : World} {base e sz n : Nat} {v : Value} {cs : List Value} (h : Oat w base e sz v n cs) : ∃ A c, v = .slice A n c ∧ n ≤ c ∧ c ≤ 9223372036854775807 ∧ (0 < c → ∃ g off, A = some ⟨g, off, none⟩) := by
 rcases h.2 with ⟨rfl, rfl⟩ | ⟨g, off, cap, cur, rfl, hb, hh, hn, hc, hcur, ht⟩
 ·exact ⟨_, _, rfl, Nat.le_refl _, by omega, fun h => absurd h (by omega)⟩
 ·exact ⟨_, _, rfl, hn, by unfold maxLen at hc; omega, fun _ => ⟨g, off, rfl⟩⟩
theorem Oat.drop {w : World} {base e sz n k : Nat} {A : Option Addr} {c : Nat} {cs : List Value} (h : Oat w base e sz (.slice A n c) n cs) (hk : k ≤ n) :
  Oat w base e sz (.slice (if c = k then A else A.map (·.add (k * sz))) (n - k) (c - k)) (n - k) (cs.drop (k * sz)) := by
 refine ⟨by rw [List.length_drop, h.1, Nat.sub_mul], ?_⟩
 rcases h.2 with ⟨hv, rfl⟩ | ⟨g, off, cap, cur, hv, hb, hh, hn, hc, hcur, ht⟩
 ·simp only [Value.slice.injEq] at hv
  obtain ⟨rfl, _, rfl⟩ := hv
  obtain rfl : k = 0 := by omega
  exact .inl ⟨by simp, rfl⟩
 ·simp only [Value.slice.injEq, true_and] at hv
  obtain ⟨rfl, rfl⟩ := hv
  by_cases hck : c = k
  ·subst hck
   refine .inr ⟨g, off, 0, cur, by simp, hb, hh, by omega, by omega, by simp at hcur ⊢; omega, ?_⟩
   obtain rfl : n = c := by omega
   rw [← h.1]
   simp
  ·have ha : (⟨g, off, none⟩ : Addr).add (k * sz) = ⟨g, off + k * sz, none⟩ := by unfold Addr.add; split <;> simp_all
   refine .inr ⟨g, off + k * sz, c - k, cur, by rw [if_neg hck]; simp [ha], hb, hh, by omega, by omega, ?_, ?_⟩
   ·have : (c - k) * sz + k * sz = c * sz := by rw [← Nat.add_mul]; congr 1; omega
    omega
   ·rw [← ht, List.drop_take, List.drop_drop, Nat.sub_mul]
theorem Oat.take {w : World} {base e sz n k : Nat} {A : Option Addr} {c : Nat} {cs : List Value} (h : Oat w base e sz (.slice A n c) n cs) (hk : k ≤ n) : Oat w base e sz (.slice A k c) k (cs.take (k * sz)) := by
 have hle : k * sz ≤ n * sz := Nat.mul_le_mul_right _ hk
 refine ⟨by rw [List.length_take, h.1]; omega, ?_⟩
 rcases h.2 with ⟨hv, rfl⟩ | ⟨g, off, cap, cur, hv, hb, hh, hn, hc, hcur, ht⟩
 ·simp only [Value.slice.injEq] at hv
  obtain ⟨rfl, _, rfl⟩ := hv
  obtain rfl : k = 0 := by omega
  exact .inl ⟨rfl, rfl⟩
 ·simp only [Value.slice.injEq, true_and] at hv
  obtain ⟨rfl, rfl⟩ := hv
  refine .inr ⟨g, off, c, cur, rfl, hb, hh, by omega, hc, hcur, ?_⟩
  rw [← ht, List.take_take]
  congr 1
  omega

section
variable {P : Program} {tt : Nat → Option TI} [TT P tt] {ro : Option Nat} {N : Nat} {l rest : List Oper} {Q : Exit → Act → World → Prop} {E : List (Nat × Value)} {ds : List Deferred} {w w' : World}
 {d : Nat} {op : Op} {ty : TypeId} {pos : String} {aft : Array Edge} {g : Option (Nat × Bool)} {v : Value}
end

theorem eu_storeW {P : Program} {tt : Nat → Option TI} [TT P tt] {E : List (Nat × Value)} {ty : TypeId} {w : World} {t b t0 : Nat} {x y : Operand} {i : TI} {v : Value} {cs vs : List Value} (ht : tt t = some i) (hx : ev E x = some (.pointer (some ⟨b, 0, none⟩))) (hy : ev E y = some v)
  (hvs : v.cells.toList = vs) (hs : Nat.beq vs.length i.size = true) (h1 : ∀ u ∈ vs, u.oneCell' = true) (hb : Blk w b t0 cs) (hfit : vs.length = cs.length) :
  Eu P E (.store t x y) ty w (w.setRow b vs.toArray) := by
 have := eu_storeB (P := P) (ty := ty) ht hx hy hvs hs h1 hb (Nat.ble_eq_true_of_le (by omega))
 have e : spl cs 0 vs = vs := by simp [spl, hfit]
 rwa [e] at this
section
variable {P : Program} {tt : Nat → Option TI} [TT P tt] {ro : Option Nat} {N k : Nat} {l rest : List Oper} {Q : Exit → Act → World → Prop} {E : List (Nat × Value)} {ds : List Deferred} {w w' : World} {fl : Oper → Bool} {S : World → Prop}
 {d : Nat} {op : Op} {ty : TypeId} {pos : String} {aft : Array Edge} {g : Option (Nat × Bool)} {v : Value}
theorem ow_storeW {t b t0 : Nat} {x y : Operand} {i : TI} {cs vs : List Value} (hg : wants l E g = some true) (hop : op = .store t x y) (ht : tt t = some i) (hx : ev E x = some (.pointer (some ⟨b, 0, none⟩))) (hy : ev E y = some v)
  (hvs : v.cells.toList = vs) (hs : Nat.beq vs.length i.size = true) (h1 : ∀ u ∈ vs, u.oneCell' = true) (hb : Blk w b t0 cs) (hfit : vs.length = cs.length)
  (h : ∀ w', Blk w' b t0 vs → Fr (· = b) w w' → w'.heap.size = w.heap.size → OW P ro N l rest Q E ds w') : OW P ro N l (⟨none, op, ty, pos, aft, g⟩ :: rest) Q E ds w := by
 subst hop
 exact ow_eu hg (eu_storeW ht hx hy hvs hs h1 hb hfit) (h _ hb.setRow (Fr.setRow _ _ _) (by simp [World.setRow]))
theorem dw_storeW {t b t0 : Nat} {x y : Operand} {i : TI} {cs vs : List Value} (hg : wants l E g = some true) (hf : fl ⟨none, op, ty, pos, aft, g⟩ = false) (hop : op = .store t x y) (ht : tt t = some i) (hx : ev E x = some (.pointer (some ⟨b, 0, none⟩))) (hy : ev E y = some v)
  (hvs : v.cells.toList = vs) (hs : Nat.beq vs.length i.size = true) (h1 : ∀ u ∈ vs, u.oneCell' = true) (hb : Blk w b t0 cs) (hfit : vs.length = cs.length)
  (h : ∀ w', Blk w' b t0 vs → Fr (· = b) w w' → w'.heap.size = w.heap.size → S w' ∧ DW P fl ro N S l (k + 1) rest Q E ds w') : DW P fl ro N S l k (⟨none, op, ty, pos, aft, g⟩ :: rest) Q E ds w := by
 subst hop
 have := h _ (hb.setRow (ds := vs)) (Fr.setRow _ _ _) (by simp [World.setRow])
 exact dw_eu hg hf (eu_storeW ht hx hy hvs hs h1 hb hfit) this.1 this.2
theorem dw_new {t : Nat} {i : TI} (hg : wants l E g = some true) (hf : fl ⟨some d, op, ty, pos, aft, g⟩ = false) (hop : op = .alloc t) (ht : tt t = some i) (hd : Nat.blt d N = true)
  (h : ∀ w', Blk w' w.heap.size t i.zero.cells.toList → Ext w w' → w'.heap.size = w.heap.size + 1 → S w' ∧ DW P fl ro N S l (k + 1) rest Q ((d, .pointer (some ⟨w.heap.size, 0, none⟩)) :: E) ds w') :
  DW P fl ro N S l k (⟨some d, op, ty, pos, aft, g⟩ :: rest) Q E ds w := by
 subst hop
 have := h (w.alloc (.cells i.zero.cells t)) (by have := Blk.new w t i.zero.cells.toList; simpa using this) (Fr.alloc _ _) (by simp)
 exact dw_ex hg hf (ex_alloc ht) this.1 hd this.2
end
end Go.Eng
namespace Go.Eng
open Go Go.RowKit

section
variable {P : Program} {ro : Option Nat} {l : List Oper} {Q : Exit → Act → World → Prop}

def okBack (l : List Oper) : Bool :=
 l.all noSel && (List.range l.length).all fun i => match l[i]? with
  | none => true
  | some o => o.after.toList.all fun e => !Region.binds .any e || Nat.blt e.on i
theorem okBack_back (h : okBack l = true) (i : Nat) (o : Oper) (ho : l[i]? = some o) (e : Edge) (he : e ∈ o.after.toList) (hb : Region.binds .any e = true) : e.on < i := by
 simp only [okBack, Bool.and_eq_true] at h
 have hlt : i < l.length := (List.getElem?_eq_some_iff.1 ho).1
 have := List.all_eq_true.1 h.2 i (List.mem_range.2 hlt)
 simp only [ho] at this
 have := List.all_eq_true.1 this e he
 simp only [hb, Bool.not_true, Bool.false_or] at this
 exact Nat.le_of_ble_eq_true this
theorem okBack_ns (h : okBack l = true) (i : Nat) (o : Oper) (ho : l[i]? = some o) : noSel o = true := by
 simp only [okBack, Bool.and_eq_true] at h
 exact List.all_eq_true.1 h.1 o (List.mem_of_getElem? ho)

def Owes (P : Program) (ro : Option Nat) (l : List Oper) (I : Array Bool → Act → World → Prop) (listed : Array Bool) (i : Nat) (o : Oper) (a : Act) (w : World) : Prop :=
 (Region.wanted o (yielded l.toArray a.tmps) = true → Eff P ro o a w fun v w' => I (listed.setIfInBounds i true) (a.put o.dst v) w') ∧
 (Region.wanted o (yielded l.toArray a.tmps) = false → I (listed.setIfInBounds i true) (a.put o.dst undef) w)

theorem any_inv (hok : okBack l = true) (I : Array Bool → Act → World → Prop)
  (hstep : ∀ (listed : Array Bool) (a : Act) (w : World) (i : Nat) (o : Oper), listed.size = l.length → Closed l listed → I listed a w → l[i]? = some o → listed.getD i false = false →
   (∀ e ∈ o.after.toList, Region.binds .any e = true → listed.getD e.on false = true) → Owes P ro l I listed i o a w)
  (hend : ∀ (listed : Array Bool) (a : Act) (w : World), listed.size = l.length → I listed a w → (∀ i, i < l.length → listed.getD i false = true) → Q .normal a w) :
  ∀ (fuel : Nat) (listed : Array Bool) (a : Act) (w : World), listed.size = l.length → Closed l listed → (left l listed).length = fuel → I listed a w → wpAnyIn (FR ro) 0 P .any l.toArray Q fuel listed a w := by
 have done : ∀ (listed : Array Bool), listed.size = l.length → left l listed = [] → ∀ i, i < l.length → listed.getD i false = true := by
  intro listed hsz hnil i hi
  cases h : listed.getD i false with
  | true => rfl
  | false =>
   exfalso
   have : i ∈ left l listed := by unfold left; rw [List.mem_filter]; exact ⟨List.mem_range.2 hi, by rw [getD_both (by omega), h]; rfl⟩
   rw [hnil] at this; cases this
 intro fuel
 induction fuel with
 | zero =>
  intro listed a w hsz hcl hlen hI
  have hnil : left l listed = [] := List.eq_nil_of_length_eq_zero hlen
  refine ⟨?_, hend listed a w hsz hI (done listed hsz hnil)⟩
  rw [List.eq_nil_iff_forall_not_mem]
  intro i hi
  rw [mem_ready] at hi
  obtain ⟨h0, o, ho, _⟩ := hi
  have hlt : i < l.length := by simpa using (Array.getElem?_eq_some_iff.1 ho).1
  have h1 := done listed hsz hnil i hlt
  rw [← getD_both (by omega), h0] at h1
  cases h1
 | succ fuel ih =>
  intro listed a w hsz hcl hlen hI
  refine ⟨fun hr => ?_, ?_⟩
  ·exfalso
   cases hl : left l listed with
   | nil => rw [hl] at hlen; simp at hlen
   | cons i R =>
    have himem : i ∈ left l listed := by rw [hl]; exact List.mem_cons_self
    have hi2 := List.mem_filter.1 himem
    have hlt := List.mem_range.1 hi2.1
    have hmin : ∀ j, j < i → listed.getD j false = true := by
     intro j hj
     cases hlj : listed.getD j false with
     | true => rfl
     | false =>
      exfalso
      have hjl : j < l.length := by omega
      have hjm : j ∈ left l listed := by
       unfold left; rw [List.mem_filter]
       exact ⟨List.mem_range.2 hjl, by rw [getD_both (by omega), hlj]; rfl⟩
      have hpw : (left l listed).Pairwise (· < ·) := List.Pairwise.filter _ List.pairwise_lt_range
      rw [hl] at hjm hpw
      rcases List.mem_cons.1 hjm with rfl | hjm
      ·omega
      ·have := (List.pairwise_cons.1 hpw).1 j hjm
       omega
    have hg : l[i]? = some l[i] := List.getElem?_eq_getElem hlt
    have : i ∈ Region.ready .any l.toArray listed := by
     rw [mem_ready]
     refine ⟨by simpa using hi2.2, l[i], by simp, fun e he hb => ?_⟩
     exact hmin _ (okBack_back hok i _ hg e (by simpa using he) hb)
    rw [hr] at this; cases this
  ·intro i hi
   rw [mem_ready] at hi
   obtain ⟨h0, o, ho, hdeps⟩ := hi
   have ho' : l[i]? = some o := by simpa using ho
   have hlt : i < l.length := (List.getElem?_eq_some_iff.1 ho').1
   obtain ⟨R1, R2, hs1, hs2, hs3⟩ := filter_split (p := fun j => !listed.getD j true) List.nodup_range (List.mem_range.2 hlt) (by simp [h0]) List.pairwise_lt_range
   have hleft' : left l (listed.setIfInBounds i true) = R1 ++ R2 := by
    rw [← hs3]
    unfold left
    apply List.filter_congr
    intro j _
    by_cases hij : i = j
    ·subst hij
     have : i < listed.size := by omega
     simp [this]
    ·rw [getD_set_ne true hij]
     simp [Ne.symm hij]
   have hleft : left l listed = R1 ++ i :: R2 := hs1
   have hcl' : Closed l (listed.setIfInBounds i true) := by
    intro k p hk hp e he hb
    by_cases hik : i = k
    ·subst hik
     rw [ho'] at hp
     cases hp
     exact getD_set_true (hdeps e (by simpa using he) hb)
    ·rw [getD_set_ne false hik] at hk
     exact getD_set_true (hcl k p hk hp e he hb)
   have hlen' : (left l (listed.setIfInBounds i true)).length = fuel := by
    rw [hleft']
    rw [hleft] at hlen
    simp at hlen ⊢
    omega
   have hsz' : (listed.setIfInBounds i true).size = l.length := by simpa using hsz
   have hf : listed.getD i false = false := by rw [← getD_both (by omega)]; exact h0
   obtain ⟨h1, h2⟩ := hstep listed a w i o hsz hcl hI ho' hf (fun e he hb => hdeps e (by simpa using he) hb)
   unfold wpOpIn
   rw [ho]
   dsimp only
   cases hw : Region.wanted o (yielded l.toArray a.tmps) with
   | true =>
    rw [if_pos rfl]
    exact Eff.wpIn (noSel_defer (okBack_ns hok i o ho')) ((h1 hw).mono fun v w' hI' => ih _ _ _ hsz' hcl' hlen' hI')
   | false =>
    rw [if_neg (by simp)]
    exact ⟨fun f _ => FR_fn ro f, ih _ _ _ hsz' hcl' hlen' (h2 hw)⟩

theorem region_inv (hok : okBack l = true) (hm : P.follows .mixedOrders = true) (I : Array Bool → Act → World → Prop) {id : Nat} {a : Act} {w : World} (h0 : I (Array.replicate l.length false) a w.drew)
  (hstep : ∀ (listed : Array Bool) (a : Act) (w : World) (i : Nat) (o : Oper), listed.size = l.length → Closed l listed → I listed a w → l[i]? = some o → listed.getD i false = false →
   (∀ e ∈ o.after.toList, Region.binds .any e = true → listed.getD e.on false = true) → Owes P ro l I listed i o a w)
  (hend : ∀ (listed : Array Bool) (a : Act) (w : World), listed.size = l.length → I listed a w → (∀ i, i < l.length → listed.getD i false = true) → Q .normal a w) :
  (Code.region id l.toArray true).wpIn (FR ro) 0 P Q a w := by
 have hleft : left l (Array.replicate l.length false) = List.range l.length := by
  unfold left
  rw [List.filter_eq_self]
  intro i hi
  have := List.mem_range.1 hi
  simp [this]
 refine wpIn_region_any hm ?_
 have := any_inv (P := P) (ro := ro) (Q := Q) hok I hstep hend l.length (Array.replicate l.length false) a w.drew (by simp)
  (by intro i o hi; simp [Array.getElem?_replicate] at hi; split at hi <;> simp at hi) (by rw [hleft]; simp) h0
 simpa using this
end

section
variable {P : Program} {ro : Option Nat} {l : List Oper} {Q : Exit → Act → World → Prop} {S : World → Prop} {fl : Oper → Bool}
def rest (R : List Nat) (listed : Array Bool) : List Nat := R.filter fun i => !listed.getD i true
theorem step_of_Tx (hns : ∀ (i : Nat) (o : Oper), l[i]? = some o → noSel o = true) {R : List Nat} (hnd : R.Nodup) (hpw : R.Pairwise (· < ·)) {listed : Array Bool} {i : Nat} {o : Oper} {a : Act} {w : World}
  (hi : i ∈ R) (ho : l[i]? = some o) (hsz : i < listed.size) (h0 : listed.getD i true = false)
  (hanc : ∀ r, r < i → listed.getD r true = false → r ∈ R → ∀ p : Oper, l[(r : Nat)]? = some p → Apart l p o ∧ (fl o = true ∨ fl p = true)) (hS : S w) (h : Tx P fl ro l S Q (rest R listed) a w) :
  (Region.wanted o (yielded l.toArray a.tmps) = true → Eff P ro o a w fun v w' => S w' ∧ Tx P fl ro l S Q (rest R (listed.setIfInBounds i true)) (a.put o.dst v) w') ∧
  (Region.wanted o (yielded l.toArray a.tmps) = false → Tx P fl ro l S Q (rest R (listed.setIfInBounds i true)) (a.put o.dst undef) w) := by
 obtain ⟨R1, R2, hs1, hs2, hs3⟩ := filter_split (p := fun j => !listed.getD j true) hnd hi (by simp [h0]) hpw
 have hleft' : rest R (listed.setIfInBounds i true) = R1 ++ R2 := by
  rw [← hs3]
  unfold rest
  apply List.filter_congr
  intro j _
  by_cases hij : i = j
  ·subst hij
   simp [hsz]
  ·rw [getD_set_ne true hij]
   simp [Ne.symm hij]
 have hmem : ∀ r ∈ R1, r ∈ R := fun r hr => by
  have : r ∈ R.filter (fun j => !listed.getD j true) := by rw [hs1]; exact List.mem_append_left _ hr
  exact (List.mem_filter.1 this).1
 have hanc' : ∀ r ∈ R1, ∀ p : Oper, l[(r : Nat)]? = some p → Apart l p o ∧ (fl o = true ∨ fl p = true) := fun r hr p hp =>
  hanc r (hs2 r hr).1 (by simpa using (hs2 r hr).2) (hmem r hr) p hp
 rw [hleft']
 unfold rest at h
 rw [hs1] at h
 cases hf : fl o with
 | true =>
  obtain ⟨v, hv, ht⟩ := Tx.first hns ho hf R1 a w (fun r hr p hp => (hanc' r hr p hp).1) hS h
  refine ⟨fun hw => ?_, fun hw => ?_⟩
  ·unfold Eff
   rw [hv.1 hw w hS]
   exact ⟨hS, ht⟩
  ·rw [hv.2 hw] at ht; exact ht
 | false => exact Tx.over hns ho hf R1 a w (fun r hr p hp => ⟨(hanc' r hr p hp).1, ((hanc' r hr p hp).2).resolve_left (by simp [hf])⟩) h

def okCut (fl : Oper → Bool) (n : Nat) (l : List Oper) : Bool :=
 let an := ancT l []
 okBack l && (List.range l.length).all fun i => match l[i]? with
  | none => true
  | some o => (List.range i).all fun j => match l[j]? with
    | none => true
    | some p => (an.getD i []).contains j || ((Nat.ble n j || Nat.blt i n) && (p.apart l.toArray o && o.apart l.toArray p && (fl o || fl p)))
theorem okCut_pair {n : Nat} (h : okCut fl n l = true) (i j : Nat) (o p : Oper) (ho : l[i]? = some o) (hp : l[j]? = some p) (hji : j < i) :
  j ∈ (ancT l []).getD i [] ∨ ((n ≤ j ∨ i < n) ∧ Apart l p o ∧ (fl o = true ∨ fl p = true)) := by
 simp only [okCut, Bool.and_eq_true] at h
 have hlt : i < l.length := (List.getElem?_eq_some_iff.1 ho).1
 have := List.all_eq_true.1 h.2 i (List.mem_range.2 hlt)
 simp only [ho] at this
 have := List.all_eq_true.1 this j (List.mem_range.2 hji)
 simp only [hp, Bool.or_eq_true, Bool.and_eq_true] at this
 rcases this with h1 | ⟨h0, ⟨h1, h2⟩, h3⟩
 ·exact .inl (List.contains_iff_mem.1 h1)
 ·exact .inr ⟨h0.imp Nat.le_of_ble_eq_true Nat.le_of_ble_eq_true, ⟨h1, h2⟩, h3⟩

def Q2 (P : Program) (fl : Oper → Bool) (ro : Option Nat) (l : List Oper) (S2 : World → Prop) (n : Nat) (Q : Exit → Act → World → Prop) : Exit → Act → World → Prop :=
 fun _ a w => S2 w ∧ Tx P fl ro l S2 Q (List.range' n (l.length - n)) a w

theorem region_cut {n : Nat} (hn : n ≤ l.length) (hok : okCut fl n l = true) (hm : P.follows .mixedOrders = true) {S1 S2 : World → Prop} {id : Nat} {a : Act} {w : World} (hS : S1 w.drew)
  (h : Tx P fl ro l S1 (Q2 P fl ro l S2 n Q) (List.range n) a w.drew) : (Code.region id l.toArray true).wpIn (FR ro) 0 P Q a w := by
 have hb : okBack l = true := by simp only [okCut, Bool.and_eq_true] at hok; exact hok.1
 have hns := okBack_ns hb
 have nd2 : (List.range' n (l.length - n)).Nodup := List.nodup_range'
 have pw2 : (List.range' n (l.length - n)).Pairwise (· < ·) := List.pairwise_lt_range' (s := n) (n := l.length - n)
 let I : Array Bool → Act → World → Prop := fun listed a w =>
  ((∀ i, n ≤ i → i < l.length → listed.getD i true = false) ∧ S1 w ∧ Tx P fl ro l S1 (Q2 P fl ro l S2 n Q) (rest (List.range n) listed) a w) ∨
  ((∀ j, j < n → listed.getD j true = true) ∧ S2 w ∧ Tx P fl ro l S2 Q (rest (List.range' n (l.length - n)) listed) a w)
 have conv : ∀ (listed : Array Bool) (a : Act) (w : World), I listed a w → (∃ j, j < n ∧ listed.getD j true = false ∧ (∀ i, n ≤ i → i < l.length → listed.getD i true = false) ∧ S1 w ∧ Tx P fl ro l S1 (Q2 P fl ro l S2 n Q) (rest (List.range n) listed) a w) ∨
   ((∀ j, j < n → listed.getD j true = true) ∧ S2 w ∧ Tx P fl ro l S2 Q (rest (List.range' n (l.length - n)) listed) a w) := by
  rintro listed a w (⟨h1, h2, h3⟩ | h)
  ·cases hr : rest (List.range n) listed with
   | nil =>
    right
    rw [hr] at h3
    have hall : ∀ j, j < n → listed.getD j true = true := fun j hj => by
     cases hx : listed.getD j true with
     | true => rfl
     | false =>
      exfalso
      have : j ∈ rest (List.range n) listed := by unfold rest; rw [List.mem_filter]; exact ⟨List.mem_range.2 hj, by simp [hx]⟩
      rw [hr] at this; cases this
    refine ⟨hall, h3.1, ?_⟩
    have : rest (List.range' n (l.length - n)) listed = List.range' n (l.length - n) := by
     unfold rest
     rw [List.filter_eq_self]
     intro i hi
     rw [List.mem_range'_1] at hi
     simp [h1 i hi.1 (by omega)]
    rw [this]
    exact h3.2
   | cons j R =>
    left
    have hj : j ∈ rest (List.range n) listed := by rw [hr]; exact List.mem_cons_self
    unfold rest at hj
    rw [List.mem_filter] at hj
    exact ⟨j, List.mem_range.1 hj.1, by simpa using hj.2, h1, h2, by rw [hr] at h3; exact h3⟩
  ·exact .inr h
 refine region_inv hb hm I ?_ ?_ ?_
 ·left
  refine ⟨fun i _ hi => by simp [hi], hS, ?_⟩
  have : rest (List.range n) (Array.replicate l.length false) = List.range n := by
   unfold rest
   rw [List.filter_eq_self]
   intro i hi
   have := List.mem_range.1 hi
   have : i < l.length := by omega
   simp [this]
  rw [this]
  exact h
 ·intro listed a w i o hsz hcl hI ho hf hdeps
  have hlt : i < l.length := (List.getElem?_eq_some_iff.1 ho).1
  have hft : listed.getD i true = false := by rw [getD_both (by omega)]; exact hf
  have hanc : ∀ r, r < i → listed.getD r true = false → ∀ p : Oper, l[(r : Nat)]? = some p → (n ≤ r ∨ i < n) ∧ Apart l p o ∧ (fl o = true ∨ fl p = true) := by
   intro r hri hun p hp
   rcases okCut_pair hok i r o p ho hp hri with hm | hm
   ·exfalso
    have := ancT_sound hcl l [] [] rfl rfl (fun i o h => by simp at h) i o ho hdeps r hm
    have hrl : r < l.length := (List.getElem?_eq_some_iff.1 hp).1
    rw [getD_both (by omega), this] at hun
    cases hun
   ·exact hm
  rcases conv listed a w hI with ⟨j0, hj0, hun0, h1, h2, h3⟩ | ⟨h1, h2, h3⟩
  ·have hin : i < n := by
    rcases Nat.lt_or_ge i n with h | h
    ·exact h
    ·have := (hanc j0 (by omega) hun0 l[j0] (List.getElem?_eq_getElem (by omega))).1
     omega
   obtain ⟨g1, g2⟩ := step_of_Tx (fl := fl) hns List.nodup_range List.pairwise_lt_range (List.mem_range.2 hin) ho (by omega) hft (fun r hr hu _ p hp => (hanc r hr hu p hp).2) h2 h3
   have keep : ∀ k, n ≤ k → k < l.length → (listed.setIfInBounds i true).getD k true = false := fun k hk hkl => by
    rw [getD_set_ne true (by omega)]; exact h1 k hk hkl
   exact ⟨fun hw => (g1 hw).mono fun v w' ⟨hS', ht⟩ => .inl ⟨keep, hS', ht⟩, fun hw => .inl ⟨keep, h2, g2 hw⟩⟩
  ·have hin : n ≤ i := by
    rcases Nat.lt_or_ge i n with h | h
    ·rw [h1 i h] at hft; cases hft
    ·exact h
   obtain ⟨g1, g2⟩ := step_of_Tx (fl := fl) hns nd2 pw2 (List.mem_range'_1.2 ⟨hin, by omega⟩) ho (by omega) hft (fun r hr hu _ p hp => (hanc r hr hu p hp).2) h2 h3
   have keep : ∀ j, j < n → (listed.setIfInBounds i true).getD j true = true := fun j hj => by
    rw [getD_set_ne true (by omega)]; exact h1 j hj
   exact ⟨fun hw => (g1 hw).mono fun v w' ⟨hS', ht⟩ => .inr ⟨keep, hS', ht⟩, fun hw => .inr ⟨keep, h2, g2 hw⟩⟩
 ·intro listed a w hsz hI hall
  rcases conv listed a w hI with ⟨j0, hj0, hun0, _⟩ | ⟨h1, h2, h3⟩
  ·have := hall j0 (by omega)
   rw [← getD_both (by omega), hun0] at this
   cases this
  ·have : rest (List.range' n (l.length - n)) listed = [] := by
    unfold rest
    rw [List.filter_eq_nil_iff]
    intro k hk
    rw [List.mem_range'_1] at hk
    rw [getD_both (by omega), hall k (by omega)]
    simp
   rw [this] at h3
   exact h3
end

section
variable {P : Program} {ro : Option Nat} {l : List Oper} {Q : Exit → Act → World → Prop} {N : Nat} {E : List (Nat × Value)} {ds : List Deferred} {w : World}
theorem cw_draw2 (fl : Oper → Bool) (n : Nat) (S1 S2 : World → Prop) [hm : Mixed P] {id : Nat} (hn : Nat.ble n l.length = true) (hok : okCut fl n l = true) (hS : S1 w.drew)
  (h : DW P fl ro N S1 l 0 (l.take n) (Q2 P fl ro l S2 n Q) E ds w.drew) : CW P ro N (.region id l.toArray true) Q E ds w := fun a hk hd => by
 have hn := Nat.le_of_ble_eq_true hn
 refine region_cut (S2 := S2) hn hok hm.on hS ?_
 have := h a hk hd hS (by intro j hj; rw [List.length_take] at hj; rw [List.getElem?_take, if_pos (by omega), Nat.zero_add])
 rw [List.length_take, Nat.min_eq_left hn, ← List.range_eq_range'] at this
 exact this
theorem pn_draw2 {fl : Oper → Bool} {n : Nat} {S2 : World → Prop} (hn : Nat.ble n l.length = true) (hS : S2 w) (h : DW P fl ro N S2 l n (l.drop n) Q E ds w) : PN N (Q2 P fl ro l S2 n Q) .normal E ds w := fun a hk hd => by
 have := h a hk hd hS (by intro j hj; simp [List.getElem?_drop])
 rw [List.length_drop] at this
 exact ⟨hS, this⟩
end
end Go.Eng
namespace Go.Eng
open Go Go.RowKit

def nilv (tt : Nat → Option TI) (t : Nat) : Value → Value → Option Bool
 | .pointer p, .pointer none => match tt t with
  | some ⟨.pointer _, _, _, _, _⟩ => some p.isNone
  | _ => none
 | .slice a _ _, .slice none _ _ => match tt t with
  | some ⟨.slice _, _, _, _, _⟩ => some a.isNone
  | _ => none
 | .map m, .map none => match tt t with
  | some ⟨.map _ _, _, _, _, _⟩ => some m.isNone
  | _ => none
 | _, _ => none
def pevn (tt : Nat → Option TI) (E : List (Nat × Value)) : Op → Option Value
 | .binOp .eql t x y _ => match ev E x, ev E y with
  | some u, some v => match nilv tt t u v with
   | some b => some (.bool b)
   | none => none
  | _, _ => none
 | .binOp .neq t x y _ => match ev E x, ev E y with
  | some u, some v => match nilv tt t u v with
   | some b => some (.bool (!b))
   | none => none
  | _, _ => none
 | _ => none
theorem nilv_run {P : Program} {tt : Nat → Option TI} [TT P tt] {t : Nat} {u v : Value} {b : Bool} (h : nilv tt t u v = some b) (w : World) : (Op.equal t u v).run P w = .ok b w ∧ ∀ op x y, (eqGuard op t x y u v).run P w = .ok () w := by
 unfold nilv at h
 split at h
 ·rename_i p
  split at h
  ·rename_i ht
   cases h
   have hu := TT.und (P := P) t _ ht rfl
   refine ⟨?_, fun op x y => by unfold eqGuard; cases op <;> simp⟩
   have he : ∀ d, (Op.equalIn (d + 1) t (.pointer p) (.pointer none)).run P w = .ok p.isNone w := fun d => by
    cases p <;> simp only [Op.equalIn, Sem.run_bind, run_underlying hu, Result.andThen, Sem.run_pure, Option.isNone] <;> rfl
   exact he 9999
  ·cases h
 ·rename_i a n1 c1 n2 c2
  split at h
  ·rename_i ht
   cases h
   have hu := TT.und (P := P) t _ ht rfl
   refine ⟨?_, fun op x y => by unfold eqGuard; cases op <;> simp⟩
   have he : ∀ d, (Op.equalIn (d + 1) t (.slice a n1 c1) (.slice none n2 c2)).run P w = .ok a.isNone w := fun d => by
    cases a <;> simp only [Op.equalIn, Sem.run_bind, run_underlying hu, Result.andThen, Sem.run_pure, Option.isNone] <;> rfl
   exact he 9999
  ·cases h
 ·rename_i m
  split at h
  ·rename_i ht
   cases h
   have hu := TT.und (P := P) t _ ht rfl
   refine ⟨?_, fun op x y => by unfold eqGuard; cases op <;> simp⟩
   have he : ∀ d, (Op.equalIn (d + 1) t (.map m) (.map none)).run P w = .ok m.isNone w := fun d => by
    cases m <;> simp only [Op.equalIn, Sem.run_bind, run_underlying hu, Result.andThen, Sem.run_pure, Option.isNone] <;> rfl
   exact he 9999
  ·cases h
 ·cases h
theorem pevn_sound {P : Program} {tt : Nat → Option TI} [TT P tt] {E : List (Nat × Value)} {op : Op} {ty : TypeId} {v : Value} (h : pevn tt E op = some v) : Pu P E op ty v := by
 intro w ρ o hρ ho _
 unfold pevn at h
 split at h
 ·split at h
  ·rename_i h1 h2
   split at h
   ·rename_i h3
    cases h
    obtain ⟨k1, k2⟩ := nilv_run (P := P) h3 w
    simp only [execOp, ho, hρ _ _ h1, hρ _ _ h2, Sem.run_bind, k2, Result.andThen]
    unfold nilv at h3
    split at h3 <;> first | (simp [binOp, k1]; done) | (cases h3; done)
   ·cases h
  ·cases h
 ·split at h
  ·rename_i h1 h2
   split at h
   ·rename_i h3
    cases h
    obtain ⟨k1, k2⟩ := nilv_run (P := P) h3 w
    simp only [execOp, ho, hρ _ _ h1, hρ _ _ h2, Sem.run_bind, k2, Result.andThen]
    unfold nilv at h3
    split at h3 <;> first | (simp [binOp, k1]; done) | (cases h3; done)
   ·cases h
  ·cases h
 ·cases h

section
variable {P : Program} {tt : Nat → Option TI} [TT P tt] {ro : Option Nat} {N k : Nat} {l rest : List Oper} {Q : Exit → Act → World → Prop} {E : List (Nat × Value)} {ds : List Deferred} {w w' : World} {fl : Oper → Bool} {S : World → Prop}
 {d : Nat} {op : Op} {ty : TypeId} {pos : String} {aft : Array Edge} {g : Option (Nat × Bool)} {v : Value} {fn : Func} {R : Ending → World → Prop}
theorem o_n (hg : wants l E g = some true) (hx : pevn tt E op = some v) (hd : Nat.blt d N = true) (h : OW P ro N l rest Q ((d, v) :: E) ds w) :
  OW P ro N l (⟨some d, op, ty, pos, aft, g⟩ :: rest) Q E ds w := ow_pu hg (pevn_sound hx) hd h
end
end Go.Eng
namespace Go.Eng
open Go Go.RowKit

section
variable {P : Program} {ro : Option Nat} {l : List Oper} {Q : Exit → Act → World → Prop} {N : Nat} {ds : List Deferred} {E0 : List (Nat × Value)} {fl : Oper → Bool}

def dstOf (l : List Oper) (i : Nat) : Nat := match l[i]? with | some o => o.dst.getD 0 | none => 0
def ancs (l : List Oper) (i : Nat) : List Nat := (ancT l []).getD i []
def okExt (fl : Oper → Bool) (n N : Nat) (E0 : List (Nat × Value)) (l : List Oper) : Bool :=
 okBack l && (((List.range n).all fun i => match l[i]? with
  | none => false
  | some o => o.guard.isNone && match o.dst with
   | none => false
   | some d => Nat.blt d N && (look E0 d).isNone && (List.range n).all fun j => Nat.beq j i || !Nat.beq (dstOf l j) d) &&
 (List.range l.length).all fun i => match l[i]? with
  | none => true
  | some o => Nat.blt i n || (List.range i).all fun j => match l[j]? with
    | none => true
    | some p => (ancs l i).contains j || (Nat.ble n j && (p.apart l.toArray o && o.apart l.toArray p && (fl o || fl p))))
theorem okExt_op {n : Nat} (h : okExt fl n N E0 l = true) {i : Nat} (hi : i < n) : ∃ o d, l[i]? = some o ∧ o.guard = none ∧ o.dst = some d ∧ d < N ∧ look E0 d = none ∧ ∀ j, j < n → j ≠ i → dstOf l j ≠ d := by
 simp only [okExt, Bool.and_eq_true] at h
 have := List.all_eq_true.1 h.2.1 i (List.mem_range.2 hi)
 split at this
 ·cases this
 ·rename_i o ho
  simp only [Bool.and_eq_true] at this
  obtain ⟨h1, h2⟩ := this
  split at h2
  ·cases h2
  ·rename_i d hd
   simp only [Bool.and_eq_true] at h2
   refine ⟨o, d, ho, by simpa using h1, hd, Nat.le_of_ble_eq_true h2.1.1, by simpa using h2.1.2, fun j hj hji hjd => ?_⟩
   have := List.all_eq_true.1 h2.2 j (List.mem_range.2 hj)
   simp only [Bool.or_eq_true, Bool.not_eq_true'] at this
   rcases this with h3 | h3
   ·exact hji (Nat.eq_of_beq_eq_true h3)
   ·rw [hjd, Nat.beq_refl] at h3; cases h3
theorem okExt_pair {n : Nat} (h : okExt fl n N E0 l = true) (i j : Nat) (o p : Oper) (ho : l[i]? = some o) (hp : l[j]? = some p) (hin : n ≤ i) (hji : j < i) :
  j ∈ ancs l i ∨ (n ≤ j ∧ Apart l p o ∧ (fl o = true ∨ fl p = true)) := by
 simp only [okExt, Bool.and_eq_true] at h
 have hlt : i < l.length := (List.getElem?_eq_some_iff.1 ho).1
 have := List.all_eq_true.1 h.2.2 i (List.mem_range.2 hlt)
 simp only [ho, Bool.or_eq_true] at this
 rcases this with h1 | h1
 ·have := Nat.le_of_ble_eq_true h1; omega
 ·have := List.all_eq_true.1 h1 j (List.mem_range.2 hji)
  simp only [hp, Bool.or_eq_true, Bool.and_eq_true] at this
  rcases this with h1 | ⟨h0, ⟨h1, h2⟩, h3⟩
  ·exact .inl (List.contains_iff_mem.1 h1)
  ·exact .inr ⟨Nat.le_of_ble_eq_true h0, ⟨h1, h2⟩, h3⟩
def knOf (l : List Oper) (E0 : List (Nat × Value)) (vs : Nat → Value) : List Nat → List (Nat × Value)
 | [] => E0
 | j :: L => (dstOf l j, vs j) :: knOf l E0 vs L

def upv (vs : Nat → Value) (i : Nat) (v : Value) : Nat → Value := fun j => if j = i then v else vs j

structure ExtSt (w0 : World) (N n : Nat) (l : List Oper) (E0 : List (Nat × Value)) (ds : List Deferred) (φ : Nat → (Nat → Value) → World → Prop) (own : Nat → Value → Option Nat) (L : Nat → Prop) (vs : Nat → Value) (a : Act) (w : World) : Prop where
 ext : Ext w0 w
 kn : Kn N E0 a
 dfs : a.defers = ds
 slot : ∀ i, i < n → L i → a.tmps[dstOf l i]? = some (vs i)
 fact : ∀ i, i < n → L i → φ i vs w
 low : ∀ i, i < n → L i → ∀ g, own i (vs i) = some g → w0.heap.size ≤ g ∧ g < w.heap.size
 apart : ∀ i j, i < n → j < n → L i → L j → i ≠ j → ∀ g, own i (vs i) = some g → own j (vs j) ≠ some g

theorem ExtSt.kn_of {w0 : World} {n : Nat} {φ : Nat → (Nat → Value) → World → Prop} {own : Nat → Value → Option Nat} {L : Nat → Prop} {vs : Nat → Value} {a : Act} {w : World} (h : ExtSt w0 N n l E0 ds φ own L vs a w) :
  ∀ (M : List Nat), (∀ j ∈ M, j < n ∧ L j) → Kn N (knOf l E0 vs M) a
 | [], _ => h.kn
 | j :: M, hM => by
  have ih := h.kn_of M (fun k hk => hM k (List.mem_cons_of_mem _ hk))
  obtain ⟨hj, hL⟩ := hM j List.mem_cons_self
  refine ⟨ih.1, fun i v hv => ?_⟩
  simp only [knOf, look] at hv
  split at hv
  ·rename_i hb
   have := Nat.eq_of_beq_eq_true hb
   subst this
   cases hv
   exact h.slot j hj hL
  ·exact ih.2 i v hv

theorem ExtSt.step {w0 : World} {n : Nat} {φ : Nat → (Nat → Value) → World → Prop} {own : Nat → Value → Option Nat} {L L' : Nat → Prop} {vs : Nat → Value} {a : Act} {w w' : World} {i : Nat} {o : Oper} {d : Nat} {v : Value}
  (h : ExtSt w0 N n l E0 ds φ own L vs a w) (hi : i < n) (ho : l[i]? = some o) (hd : o.dst = some d) (hdN : d < N) (hE0 : look E0 d = none) (hne : ∀ j, j < n → j ≠ i → dstOf l j ≠ d) (hnot : ¬ L i)
  (hL : ∀ j, j < n → L' j → j = i ∨ L j) (hanc : ∀ j, j < n → L j → i ∉ ancs l j)
  (hst : ∀ j vs w w', φ j vs w → Ext w w' → φ j vs w') (hloc : ∀ j vs vs' w, φ j vs w → (∀ k, k = j ∨ k ∈ ancs l j → vs k = vs' k) → φ j vs' w)
  (hext : Ext w w') (hf : φ i (upv vs i v) w') (hown : ∀ g, own i v = some g → w.heap.size ≤ g ∧ g < w'.heap.size) :
  ExtSt w0 N n l E0 ds φ own L' (upv vs i v) (a.put (some d) v) w' := by
 have hdi : dstOf l i = d := by simp [dstOf, ho, hd]
 have hself : upv vs i v i = v := by simp [upv]
 have hother : ∀ j, j ≠ i → upv vs i v j = vs j := fun j hj => by simp [upv, hj]
 have hsz := h.kn.1
 refine ⟨h.ext.trans hext, ⟨by simp [Act.put, hsz], fun k u hk => ?_⟩, by rw [put_defers']; exact h.dfs, fun j hj hLj => ?_, fun j hj hLj => ?_, fun j hj hLj g hg => ?_, fun j k hj hk hLj hLk hjk g hg => ?_⟩
 ·have hkd : d ≠ k := by intro e; subst e; rw [hE0] at hk; cases hk
  simp only [Act.put]
  rw [Array.getElem?_setIfInBounds_ne hkd]
  exact h.kn.2 k u hk
 ·by_cases hji : j = i
  ·subst hji
   rw [hdi, hself]
   simp [Act.put, hsz, hdN]
  ·have := (hL j hj hLj).resolve_left hji
   rw [hother j hji]
   simp only [Act.put]
   rw [Array.getElem?_setIfInBounds_ne (hne j hj hji).symm]
   exact h.slot j hj this
 ·by_cases hji : j = i
  ·subst hji; exact hf
  ·have hLj' := (hL j hj hLj).resolve_left hji
   refine hst j _ _ _ (hloc j vs _ w (h.fact j hj hLj') fun k hk => ?_) hext
   have : k ≠ i := by
    rintro rfl
    rcases hk with rfl | hk
    ·exact hji rfl
    ·exact hanc j hj hLj' hk
   exact (hother k this).symm
 ·by_cases hji : j = i
  ·subst hji
   rw [hself] at hg
   have := hown g hg
   exact ⟨Nat.le_trans h.ext.size this.1, this.2⟩
  ·rw [hother j hji] at hg
   have := h.low j hj ((hL j hj hLj).resolve_left hji) g hg
   exact ⟨this.1, Nat.lt_of_lt_of_le this.2 hext.size⟩
 ·by_cases hji : j = i
  ·subst hji
   have hki : k ≠ j := fun e => hjk e.symm
   rw [hself] at hg
   rw [hother k hki]
   intro hk2
   have h1 := hown g hg
   have h2 := h.low k hk ((hL k hk hLk).resolve_left hki) g hk2
   omega
  ·rw [hother j hji] at hg
   by_cases hki : k = i
   ·subst hki
    rw [hself]
    intro hk2
    have h1 := hown g hk2
    have h2 := h.low j hj ((hL j hj hLj).resolve_left hji) g hg
    omega
   ·rw [hother k hki]
    exact h.apart j k hj hk ((hL j hj hLj).resolve_left hji) ((hL k hk hLk).resolve_left hki) hjk g hg

theorem region_ext {n : Nat} (hn : n ≤ l.length) (hok : okExt fl n N E0 l = true) (hm : P.follows .mixedOrders = true) {S2 : World → Prop} {id : Nat} {a : Act} {w : World} (hk : Kn N E0 a) (hds : a.defers = ds)
  (φ : Nat → (Nat → Value) → World → Prop) (own : Nat → Value → Option Nat)
  (hst : ∀ j vs w w', φ j vs w → Ext w w' → φ j vs w') (hloc : ∀ j vs vs' w, φ j vs w → (∀ k, k = j ∨ k ∈ ancs l j → vs k = vs' k) → φ j vs' w)
  (hop : ∀ i o, i < n → l[i]? = some o → ∀ vs a w', Ext w w' → Kn N (knOf l E0 vs (ancs l i)) a → (∀ j ∈ ancs l i, φ j vs w') →
   Eff P ro o a w' fun v w'' => Ext w' w'' ∧ φ i (upv vs i v) w'' ∧ ∀ g, own i v = some g → w'.heap.size ≤ g ∧ g < w''.heap.size)
  (hend : ∀ vs a w', ExtSt w N n l E0 ds φ own (fun _ => True) vs a w' → S2 w' ∧ Tx P fl ro l S2 Q (List.range' n (l.length - n)) a w') :
  (Code.region id l.toArray true).wpIn (FR ro) 0 P Q a w := by
 have hb : okBack l = true := by simp only [okExt, Bool.and_eq_true] at hok; exact hok.1
 have hns := okBack_ns hb
 have hback : ∀ i, ∀ j ∈ ancs l i, i < l.length → j < i := by
  intro i j hj hi
  cases hlt : decide (j < i) with
  | true => exact of_decide_eq_true hlt
  | false =>
   exfalso
   have hge : i ≤ j := by have := of_decide_eq_false hlt; omega
   let lst : Array Bool := ((List.range l.length).map fun k => decide (k < i)).toArray
   have hget : ∀ k, lst.getD k false = true ↔ k < l.length ∧ k < i := by
    intro k
    simp only [lst, Array.getD_eq_getD_getElem?, List.getElem?_toArray, List.getElem?_map]
    by_cases hk : k < l.length
    ·simp [List.getElem?_range hk, hk]
    ·simp [List.getElem?_eq_none (l := List.range l.length) (by simpa using hk), hk]
   have hcl : Closed l lst := by
    intro k o hk ho e he hbd
    have := okBack_back hb k o ho e he hbd
    have h2 := (hget k).1 hk
    exact (hget _).2 ⟨by omega, by omega⟩
   have := ancT_sound hcl l [] [] rfl rfl (fun i o h => by simp at h) i l[i] (List.getElem?_eq_getElem hi) (fun e he hbd => (hget _).2 (by
    have := okBack_back hb i l[i] (List.getElem?_eq_getElem hi) e he hbd; omega)) j hj
   have := (hget j).1 this
   omega
 have nd2 : (List.range' n (l.length - n)).Nodup := List.nodup_range'
 have pw2 : (List.range' n (l.length - n)).Pairwise (· < ·) := List.pairwise_lt_range' (s := n) (n := l.length - n)
 let I : Array Bool → Act → World → Prop := fun listed a w' =>
  ((∀ i, n ≤ i → i < l.length → listed.getD i false = false) ∧ ∃ vs, ExtSt w N n l E0 ds φ own (fun i => listed.getD i false = true) vs a w') ∨
  ((∀ j, j < n → listed.getD j false = true) ∧ S2 w' ∧ Tx P fl ro l S2 Q (rest (List.range' n (l.length - n)) listed) a w')
 have conv : ∀ (listed : Array Bool) (a : Act) (w' : World), listed.size = l.length → I listed a w' → (∃ j, j < n ∧ listed.getD j false = false ∧ (∀ i, n ≤ i → i < l.length → listed.getD i false = false) ∧ ∃ vs, ExtSt w N n l E0 ds φ own (fun i => listed.getD i false = true) vs a w') ∨
   ((∀ j, j < n → listed.getD j false = true) ∧ S2 w' ∧ Tx P fl ro l S2 Q (rest (List.range' n (l.length - n)) listed) a w') := by
  rintro listed a w' hsz (⟨h1, vs, h2⟩ | h)
  ·by_cases hall : ∀ j, j < n → listed.getD j false = true
   ·right
    have h3 := hend vs a w' ⟨h2.ext, h2.kn, h2.dfs, fun i hi _ => h2.slot i hi (hall i hi), fun i hi _ => h2.fact i hi (hall i hi), fun i hi _ => h2.low i hi (hall i hi), fun i j hi hj _ _ => h2.apart i j hi hj (hall i hi) (hall j hj)⟩
    refine ⟨hall, h3.1, ?_⟩
    have : rest (List.range' n (l.length - n)) listed = List.range' n (l.length - n) := by
     unfold rest
     rw [List.filter_eq_self]
     intro i hi
     rw [List.mem_range'_1] at hi
     have := h1 i hi.1 (by omega)
     rw [← getD_both (by omega)] at this
     simp [this]
    rw [this]
    exact h3.2
   ·left
    obtain ⟨j, hj⟩ := Classical.not_forall.1 hall
    obtain ⟨hj1, hj2⟩ := Classical.not_imp.1 hj
    exact ⟨j, hj1, by simpa using hj2, h1, vs, h2⟩
  ·exact .inr h
 refine region_inv hb hm I ?_ ?_ ?_
 ·left
  have hfa : ∀ i, ¬ ((Array.replicate l.length false).getD i false = true) := by
   intro i h
   rw [Array.getD_eq_getD_getElem?, Array.getElem?_replicate] at h
   split at h <;> cases h
  exact ⟨fun i _ hi => by simp [hi], fun _ => undef, Fr.drew _, hk, hds, fun i _ h => absurd h (hfa i), fun i _ h => absurd h (hfa i), fun i _ h => absurd h (hfa i), fun i j _ _ h => absurd h (hfa i)⟩
 ·intro listed a w' i o hsz hcl hI ho hf hdeps
  have hlt : i < l.length := (List.getElem?_eq_some_iff.1 ho).1
  have hancl : ∀ r ∈ ancs l i, listed.getD r false = true := fun r hr => ancT_sound hcl l [] [] rfl rfl (fun i o h => by simp at h) i o ho hdeps r hr
  rcases conv listed a w' hsz hI with ⟨j0, hj0, hun0, h1, vs, h2⟩ | ⟨h1, h2, h3⟩
  ·have hin : i < n := by
    rcases Nat.lt_or_ge i n with h | h
    ·exact h
    ·rcases okExt_pair hok i j0 o l[j0] ho (List.getElem?_eq_getElem (by omega)) h (by omega) with hm | hm
     ·rw [hancl j0 hm] at hun0; cases hun0
     ·omega
   obtain ⟨o', d, ho', hg, hd, hdN, hE0, hne⟩ := okExt_op hok hin
   rw [ho] at ho'; cases ho'
   have hwant : Region.wanted o (yielded l.toArray a.tmps) = true := by simp [Region.wanted, hg]
   have hancn : ∀ j ∈ ancs l i, j < n ∧ listed.getD j false = true := fun j hj => ⟨by have := hback i j hj hlt; omega, hancl j hj⟩
   refine ⟨fun _ => ?_, fun hc => by rw [hwant] at hc; cases hc⟩
   refine (hop i o hin ho vs a w' h2.ext (h2.kn_of _ hancn) (fun j hj => h2.fact j (hancn j hj).1 (hancn j hj).2)).mono ?_
   rintro v w'' ⟨he, hfi, hown⟩
   left
   refine ⟨fun k hk hkl => by rw [getD_set_ne false (by omega)]; exact h1 k hk hkl, upv vs i v, ?_⟩
   rw [hd]
   refine h2.step hin ho hd hdN hE0 hne (by simp [hf]) (fun j hj hLj => ?_) (fun j hj hLj hia => ?_) hst hloc he hfi hown
   ·by_cases hji : j = i
    ·exact .inl hji
    ·right
     rwa [getD_set_ne false (fun e => hji e.symm)] at hLj
   ·have hjl : j < l.length := by omega
    have := ancT_sound hcl l [] [] rfl rfl (fun i o h => by simp at h) j l[j] (List.getElem?_eq_getElem hjl) (fun e he hbd => hcl j l[j] hLj (List.getElem?_eq_getElem hjl) e he hbd) i hia
    rw [hf] at this; cases this
  ·have hin : n ≤ i := by
    rcases Nat.lt_or_ge i n with h | h
    ·rw [h1 i h] at hf; cases hf
    ·exact h
   have hft : listed.getD i true = false := by rw [getD_both (by omega)]; exact hf
   obtain ⟨g1, g2⟩ := step_of_Tx (fl := fl) hns nd2 pw2 (List.mem_range'_1.2 ⟨hin, by omega⟩) ho (by omega) hft (fun r hr hu _ p hp => by
    rcases okExt_pair hok i r o p ho hp hin hr with hm | hm
    ·have hrl : r < l.length := (List.getElem?_eq_some_iff.1 hp).1
     rw [getD_both (by omega), hancl r hm] at hu; cases hu
    ·exact hm.2) h2 h3
   have keep : ∀ j, j < n → (listed.setIfInBounds i true).getD j false = true := fun j hj => by
    rw [getD_set_ne false (by omega)]; exact h1 j hj
   exact ⟨fun hw => (g1 hw).mono fun v w' ⟨hS', ht⟩ => .inr ⟨keep, hS', ht⟩, fun hw => .inr ⟨keep, h2, g2 hw⟩⟩
 ·intro listed a w' hsz hI hall
  rcases conv listed a w' hsz hI with ⟨j0, hj0, hun0, _⟩ | ⟨h1, h2, h3⟩
  ·have := hall j0 (by omega)
   rw [hun0] at this
   cases this
  ·have : rest (List.range' n (l.length - n)) listed = [] := by
    unfold rest
    rw [List.filter_eq_nil_iff]
    intro k hk
    rw [List.mem_range'_1] at hk
    rw [getD_both (by omega), hall k (by omega)]
    simp
   rw [this] at h3
   exact h3

theorem cw_ext {w : World} (n : Nat) (S2 : World → Prop) [hm : Mixed P] {id : Nat} {E : List (Nat × Value)} (E0 : List (Nat × Value)) (hsub : Sub E0 E) (hn : Nat.ble n l.length = true) (hok : okExt fl n N E0 l = true)
  (φ : Nat → (Nat → Value) → World → Prop) (own : Nat → Value → Option Nat)
  (hst : ∀ j vs w w', φ j vs w → Ext w w' → φ j vs w') (hloc : ∀ j vs vs' w, φ j vs w → (∀ k, k = j ∨ k ∈ ancs l j → vs k = vs' k) → φ j vs' w)
  (hop : ∀ i o, i < n → l[i]? = some o → ∀ vs a w', Ext w w' → Kn N (knOf l E0 vs (ancs l i)) a → (∀ j ∈ ancs l i, φ j vs w') →
   Eff P ro o a w' fun v w'' => Ext w' w'' ∧ φ i (upv vs i v) w'' ∧ ∀ g, own i v = some g → w'.heap.size ≤ g ∧ g < w''.heap.size)
  (hend : ∀ vs w', Ext w w' → (∀ i, i < n → φ i vs w') → (∀ i, i < n → ∀ g, own i (vs i) = some g → w.heap.size ≤ g ∧ g < w'.heap.size) → (∀ i j, i < n → j < n → i ≠ j → ∀ g, own i (vs i) = some g → own j (vs j) ≠ some g) →
   S2 w' ∧ DW P fl ro N S2 l n (l.drop n) Q (knOf l E0 vs (List.range n)) ds w') : CW P ro N (.region id l.toArray true) Q E ds w := fun a hk hd => by
 refine region_ext (S2 := S2) (Nat.le_of_ble_eq_true hn) hok hm.on (hk.sub hsub) hd φ own hst hloc hop ?_
 intro vs a w' h
 obtain ⟨h1, h2⟩ := hend vs w' h.ext (fun i hi => h.fact i hi trivial) (fun i hi => h.low i hi trivial) (fun i j hi hj => h.apart i j hi hj trivial trivial)
 refine ⟨h1, ?_⟩
 have := h2 a (h.kn_of (List.range n) (fun j hj => ⟨List.mem_range.1 hj, trivial⟩)) h.dfs h1 (by intro j hj; simp [List.getElem?_drop])
 rwa [List.length_drop] at this

theorem eff_ex {o : Oper} {a : Act} {w w' : World} {E : List (Nat × Value)} {v : Value} {next : Value → World → Prop} (hk : Kn N E a) (hx : Ex P E o.op o.type w v w') (h : next v w') : Eff P ro o a w next := by
 unfold Eff
 rw [hx a.eval o hk.hyp rfl rfl]
 exact h
theorem eff_call {o : Oper} {a : Act} {w : World} {E : List (Nat × Value)} {f : FuncId} {args : Array Value} {next : Value → World → Prop} (hk : Kn N E a) (hx : Ec P E o.op o.type w f args) (h : Calls P f args w fun e w' => ∃ v, e = .returned v ∧ next v w') : Eff P ro o a w next := by
 unfold Eff
 rw [hx a.eval o hk.hyp rfl rfl]
 exact h
end
end Go.Eng
