/- The engine, part two: the operations of a region, one behind the other, on partial knowledge of the slots; what yields its value in whatever world. Conditions: none; it holds of every program whose table of types is as 'TT' says. -/
import Derived.Test.YtgebobjihojljaaEngA
namespace Go.Eng
open Go

/-- What is told of a type: its form (of a struct: '.struct #[]', and its fields' types and places), its cells, its bytes, its zero. -/
structure TI where
  desc : TypeDesc
  size : Nat
  bytes : Nat
  zero : Value
  flds : List (Nat × Nat) := []

def isSt : TypeDesc → Bool
  | .struct _ => true
  | _ => false

class TT (P : Program) (tt : outParam (Nat → Option TI)) : Prop where
  und : ∀ t i, tt t = some i → isSt i.desc = false → P.underlying t = some i.desc
  st : ∀ t i, tt t = some i → isSt i.desc = true → ∃ fs, P.underlying t = some (.struct fs) ∧ fs.toList.map (fun f => (f.type, f.offset)) = i.flds
  info : ∀ t i, tt t = some i → ∃ j, P.info? t = some j ∧ j.size = i.size ∧ j.bytes = i.bytes ∧ j.zero = some i.zero

section
variable {P : Program} {tt : Nat → Option TI} [hTT : TT P tt]
theorem TT.run_und {t : Nat} {i : TI} (h : tt t = some i) (hn : isSt i.desc = false) (w : World) : (underlying t).run P w = .ok i.desc w := by
  simp [underlying, TT.und (P := P) t i h hn]
theorem TT.run_st {t : Nat} {i : TI} (h : tt t = some i) (hn : isSt i.desc = true) : ∃ fs : Array Field, (∀ w, (underlying t).run P w = .ok (.struct fs) w) ∧ fs.toList.map (fun f => (f.type, f.offset)) = i.flds := by
  obtain ⟨fs, h1, h2⟩ := TT.st (P := P) t i h hn
  exact ⟨fs, fun w => by simp [underlying, h1], h2⟩
theorem TT.run_size {t : Nat} {i : TI} (h : tt t = some i) (w : World) : (sizeOf t).run P w = .ok i.size w := by
  obtain ⟨j, hj, h1, _⟩ := TT.info (P := P) t i h
  simp [sizeOf, typeInfo, hj, h1]
theorem TT.run_zero {t : Nat} {i : TI} (h : tt t = some i) (w : World) : (zeroValue t).run P w = .ok i.zero w := by
  obtain ⟨j, hj, _, _, h1⟩ := TT.info (P := P) t i h
  simp [zeroValue, typeInfo, hj, h1]

/-- What a list of facts tells of the types. -/
def lookT : List (Nat × TI) → Nat → Option TI
  | [], _ => none
  | (j, v) :: T, i => match Nat.beq j i with
    | true => some v
    | false => lookT T i
def good (P : Program) (p : Nat × TI) : Prop :=
  (match isSt p.2.desc with
   | true => (P.underlying p.1).map (fun d => match d with | .struct fs => fs.toList.map (fun f => (f.type, f.offset)) | _ => [(0, 99999)]) = some p.2.flds
   | false => P.underlying p.1 = some p.2.desc) ∧
  (P.info? p.1).map (fun j => (j.size, j.bytes, j.zero)) = some (p.2.size, p.2.bytes, some p.2.zero)
def stf (d : TypeDesc) : List (Nat × Nat) := match d with
  | .struct fs => fs.toList.map (fun f => (f.type, f.offset))
  | _ => [(0, 99999)]
theorem good_d {P : Program} {k : Nat} {i : TI} (hn : isSt i.desc = false) (h1 : P.underlying k = some i.desc) (h2 : (P.info? k).map (fun j => (j.size, j.bytes, j.zero)) = some (i.size, i.bytes, some i.zero)) : good P (k, i) := by
  unfold good
  simp only [hn]
  exact ⟨h1, h2⟩
theorem good_s {P : Program} {k : Nat} {i : TI} (hn : isSt i.desc = true) (h1 : (P.underlying k).map stf = some i.flds) (h2 : (P.info? k).map (fun j => (j.size, j.bytes, j.zero)) = some (i.size, i.bytes, some i.zero)) : good P (k, i) := by
  unfold good
  simp only [hn]
  exact ⟨h1, h2⟩
theorem lookT_mem {T : List (Nat × TI)} {t : Nat} {i : TI} (h : lookT T t = some i) : (t, i) ∈ T := by
  induction T with
  | nil => simp [lookT] at h
  | cons p T ih =>
    obtain ⟨j, v⟩ := p
    simp only [lookT] at h
    split at h
    · rename_i hb
      have := Nat.eq_of_beq_eq_true hb
      subst this
      cases h
      exact List.mem_cons_self
    · exact List.mem_cons_of_mem _ (ih h)
theorem TT.of_list {T : List (Nat × TI)} (h : ∀ p ∈ T, good P p) (hz : ∀ p ∈ T, p.2.flds ≠ [(0, 99999)]) : TT P (lookT T) := by
  refine ⟨fun t i hi hn => ?_, fun t i hi hn => ?_, fun t i hi => ?_⟩
  · have hg := (h _ (lookT_mem hi)).1
    simp only [hn] at hg
    exact hg
  · have hg := (h _ (lookT_mem hi)).1
    have hz' := hz _ (lookT_mem hi)
    simp only [hn] at hg
    cases hd : P.underlying t with
    | none => simp [hd] at hg
    | some d =>
      simp only [hd, Option.map_some, Option.some.injEq] at hg
      cases d <;> first | exact ⟨_, rfl, hg⟩ | exact absurd hg.symm hz'
  · have hg := (h _ (lookT_mem hi)).2
    cases hd : P.info? t with
    | none => simp [hd] at hg
    | some j =>
      simp only [hd, Option.map_some, Option.some.injEq, Prod.mk.injEq] at hg
      exact ⟨j, rfl, hg.1, hg.2.1, hg.2.2⟩
end

def nth {α : Type} : List α → Nat → Option α
  | [], _ => none
  | x :: _, 0 => some x
  | _ :: l, n + 1 => nth l n

theorem nth_eq {α : Type} (l : List α) (n : Nat) : nth l n = l[n]? := by
  induction l generalizing n with
  | nil => simp [nth]
  | cons x l ih => cases n with
    | zero => simp [nth]
    | succ n => simp [nth, ih]

def bqq : Bool → Bool → Bool
  | true, b => b
  | false, b => !b

/-- Is an operation's guard met? -/
def wants (l : List Oper) (E : List (Nat × Value)) : Option (Nat × Bool) → Option Bool
  | none => some true
  | some (j, b) => match nth l j with
    | some o => match o.dst with
      | some d => match look E d with
        | some (.bool c) => some (bqq c b)
        | some (.tuple _) => some false
        | _ => none
      | none => none
    | none => none

theorem wanted_of {l : List Oper} {E : List (Nat × Value)} {N : Nat} {a : Act} {o : Oper} {b : Bool} (hk : Kn N E a) (h : wants l E o.guard = some b) :
    Region.wanted o (yielded l.toArray a.tmps) = b := by
  unfold wants at h
  unfold Region.wanted
  split at h
  · rename_i hg
    simp only [hg]
    simpa using h
  · rename_i j wb hg
    simp only [hg]
    split at h
    · rename_i o' ho
      split at h
      · rename_i d hd
        split at h
        · rename_i c hc
          have hc' := hk.2 _ _ hc
          rw [nth_eq] at ho
          simp only [yielded, List.getElem?_toArray, ho, Option.bind_some, hd, hc']
          simp only [Option.some.injEq] at h
          subst h
          cases c <;> cases wb <;> rfl
        · rename_i c hc
          have hc' := hk.2 _ _ hc
          rw [nth_eq] at ho
          simp only [yielded, List.getElem?_toArray, ho, Option.bind_some, hd, hc']
          simp only [Option.some.injEq] at h
          subst h
          cases wb <;> rfl
        · cases h
      · cases h
    · cases h

/-- The operation runs to a value. -/
def Ex (P : Program) (E : List (Nat × Value)) (op : Op) (ty : TypeId) (w : World) (v : Value) (w' : World) : Prop :=
  ∀ (ρ : Operand → Value) (o : Oper), (∀ x u, ev E x = some u → ρ x = u) → o.op = op → o.type = ty → (execOp ρ o).run P w = .ok (.value v) w'
/-- The operation runs to an end without a value. -/
def Eu (P : Program) (E : List (Nat × Value)) (op : Op) (ty : TypeId) (w : World) (w' : World) : Prop :=
  ∀ (ρ : Operand → Value) (o : Oper), (∀ x u, ev E x = some u → ρ x = u) → o.op = op → o.type = ty → (execOp ρ o).run P w = .ok .skip w'
/-- The operation calls a function. -/
def Ec (P : Program) (E : List (Nat × Value)) (op : Op) (ty : TypeId) (w : World) (f : FuncId) (args : Array Value) : Prop :=
  ∀ (ρ : Operand → Value) (o : Oper), (∀ x u, ev E x = some u → ρ x = u) → o.op = op → o.type = ty → (execOp ρ o).run P w = .ok (.enter f args) w
/-- It yields its value in whatever world. -/
def Pu (P : Program) (E : List (Nat × Value)) (op : Op) (ty : TypeId) (v : Value) : Prop := ∀ w, Ex P E op ty w v w

theorem Kn.hyp {N : Nat} {E : List (Nat × Value)} {a : Act} (h : Kn N E a) : ∀ x u, Eng.ev E x = some u → a.eval x = u := fun _ _ hx => h.ev hx

theorem semAt_of_ok {P : Program} {ro : Option Nat} {ρ : Operand → Value} {o : Oper} {w w' : World} {r : Next} (hr : ∀ d, r ≠ .defer d) (h : (execOp ρ o).run P w = .ok r w') :
    (o.semAt ro ρ).run P w = .ok r w' := by
  rw [Oper.semAt_eq]
  · exact h
  · intro c hc
    simp only [execOp, hc, Sem.run_bind] at h
    cases hx : (resolve ρ c o.type).run P w with
    | ok d w1 => rw [hx] at h; simp [Result.andThen] at h; exact hr _ h.1.symm
    | halt e w1 => rw [hx] at h; simp [Result.andThen] at h

section
variable {P : Program} {ro : Option Nat} {N : Nat} {l rest : List Oper} {Q : Exit → Act → World → Prop} {E : List (Nat × Value)} {ds : List Deferred} {w w' : World}
  {d : Nat} {op : Op} {ty : TypeId} {pos : String} {aft : Array Edge} {g : Option (Nat × Bool)} {v : Value}

def OW (P : Program) (ro : Option Nat) (N : Nat) (l rest : List Oper) (Q : Exit → Act → World → Prop) (E : List (Nat × Value)) (ds : List Deferred) (w : World) : Prop :=
  ∀ a, Kn N E a → a.defers = ds → wpListIn (FR ro) 0 P l.toArray Q rest a w

theorem cw_region {i : Nat} (h : OW P ro N l l Q E ds w) : CW P ro N (.region i l.toArray false) Q E ds w := fun a hk hd => wpIn_region_lit (h a hk hd)
theorem ow_nil (h : PN N Q .normal E ds w) : OW P ro N l [] Q E ds w := fun a hk hd => h a hk hd

theorem ow_skip (hg : wants l E g = some false) (hd : Nat.blt d N = true) (h : OW P ro N l rest Q ((d, undef) :: E) ds w) : OW P ro N l (⟨some d, op, ty, pos, aft, g⟩ :: rest) Q E ds w := by
  intro a hk hds
  unfold wpListIn
  rw [wanted_of (o := ⟨some d, op, ty, pos, aft, g⟩) hk hg]
  simp only [Bool.false_eq_true, if_false]
  exact ⟨fun f _ => FR_fn ro f, h _ (hk.put hd) hds⟩

theorem ow_ex (hg : wants l E g = some true) (hx : Ex P E op ty w v w') (hd : Nat.blt d N = true) (h : OW P ro N l rest Q ((d, v) :: E) ds w') :
    OW P ro N l (⟨some d, op, ty, pos, aft, g⟩ :: rest) Q E ds w := by
  intro a hk hds
  unfold wpListIn
  rw [wanted_of (o := ⟨some d, op, ty, pos, aft, g⟩) hk hg]
  simp only [if_true]
  have hr := hx a.eval ⟨some d, op, ty, pos, aft, g⟩ hk.hyp rfl rfl
  refine ⟨fun f _ => FR_fn ro f, ?_⟩
  rw [semAt_of_ok (by simp) hr]
  exact h _ (hk.put hd) hds

theorem ow_eu (hg : wants l E g = some true) (hx : Eu P E op ty w w') (h : OW P ro N l rest Q E ds w') :
    OW P ro N l (⟨none, op, ty, pos, aft, g⟩ :: rest) Q E ds w := by
  intro a hk hds
  unfold wpListIn
  rw [wanted_of (o := ⟨none, op, ty, pos, aft, g⟩) hk hg]
  simp only [if_true]
  have hr := hx a.eval ⟨none, op, ty, pos, aft, g⟩ hk.hyp rfl rfl
  refine ⟨fun f _ => FR_fn ro f, ?_⟩
  rw [semAt_of_ok (by simp) hr]
  exact h _ hk.putNone hds

theorem calls_FR {f : FuncId} {args : Array Value} {R : Ending → World → Prop} (h : Calls P f args w R) : CallsIn (FR ro) 0 P f args w R :=
  show CallsIn Fence.wide 0 P f args w R from callsIn_wide.2 h
theorem calls_of_FR {n : Nat} {f : FuncId} {args : Array Value} {R : Ending → World → Prop} (h : CallsIn (FR ro) n P f args w R) : Calls P f args w R :=
  callsIn_wide.1 (show CallsIn Fence.wide n P f args w R from h)

theorem ow_call {f : FuncId} {args : Array Value} (hg : wants l E g = some true) (hx : Ec P E op ty w f args) (hd : Nat.blt d N = true)
    (h : Calls P f args w fun e w' => ∃ v, e = .returned v ∧ OW P ro N l rest Q ((d, v) :: E) ds w') :
    OW P ro N l (⟨some d, op, ty, pos, aft, g⟩ :: rest) Q E ds w := by
  intro a hk hds
  unfold wpListIn
  rw [wanted_of (o := ⟨some d, op, ty, pos, aft, g⟩) hk hg]
  simp only [if_true]
  have hr := hx a.eval ⟨some d, op, ty, pos, aft, g⟩ hk.hyp rfl rfl
  refine ⟨fun f _ => FR_fn ro f, ?_⟩
  rw [semAt_of_ok (by simp) hr, Oper.uponIn_enter]
  refine ⟨fun h => by simp [Fence.wide] at h, (calls_FR h).mono ?_⟩
  rintro e w' ⟨v, rfl, h'⟩
  exact h' _ (hk.put hd) hds

/-! ## What runs in whatever world -/
theorem ow_pu (hg : wants l E g = some true) (hx : Pu P E op ty v) (hd : Nat.blt d N = true) (h : OW P ro N l rest Q ((d, v) :: E) ds w) :
    OW P ro N l (⟨some d, op, ty, pos, aft, g⟩ :: rest) Q E ds w := ow_ex hg (hx w) hd h
end

/-- A call's target and its arguments. -/
def callOf (E : List (Nat × Value)) : Op → Option (FuncId × List Value)
  | .call { callee := .value f, args := xs, argTypes := _ } => match ev E f, evs E xs.toList with
    | some (.func (.func k) ⟨[]⟩ cs), some vs => some (k, vs ++ cs.toList)
    | _, _ => none
  | _ => none

/-- The function has a body of its own. -/
class Bodied (P : Program) (f : FuncId) : Prop where
  run : ∀ args w, (callFunc f args).run P w = .ok (.enter f args) w

theorem bodied_of {P : Program} {f : FuncId} {fn : Func} {c : Code} (hf : P.funcs[f]? = some fn) (hname : (fn.name == "runtime.NumGoroutine") = false) (hb : fn.body = some c) : Bodied P f :=
  ⟨fun args w => by
    have hn : ¬ fn.name = "runtime.NumGoroutine" := by simpa using hname
    simp [callFunc, hf, hn, hb]⟩

theorem ec_call {P : Program} {E : List (Nat × Value)} {op : Op} {ty : TypeId} {w : World} {f : FuncId} {vs : List Value} (h : callOf E op = some (f, vs)) [hb : Bodied P f] :
    Ec P E op ty w f vs.toArray := by
  intro ρ o hρ ho _
  unfold callOf at h
  split at h
  · rename_i fo xs at'
    split at h
    · rename_i k cs vs' h1 h2
      simp only [Option.some.injEq, Prod.mk.injEq] at h
      obtain ⟨rfl, rfl⟩ := h
      have e1 := hρ _ _ h1
      have e2 : ∀ (xs : List Operand) (vs : List Value), evs E xs = some vs → xs.map ρ = vs := by
        intro xs
        induction xs with
        | nil => intro vs hx; simp [evs] at hx; simp [hx]
        | cons x xs ih =>
          intro vs hx
          simp only [evs] at hx
          split at hx
          · rename_i v vs' h1 h2
            cases hx
            simp [hρ _ _ h1, ih _ h2]
          · cases hx
      have e3 := e2 _ _ h2
      have e4 : xs.map ρ = vs'.toArray := by
        apply Array.ext'
        simp [e3]
      have hc : vs'.toArray ++ cs = (vs' ++ cs.toList).toArray := by simp
      simp [execOp, ho, resolve, e1, e4, Deferred.ofValue, invoke, hc, hb.run]
    · cases h
  · cases h

theorem sr {P : Program} {ro : Option Nat} {N : Nat} {l : List Oper} {Q : Exit → Act → World → Prop} {E : List (Nat × Value)} {ds : List Deferred} {w : World} {i : Nat} {y : Code}
    (h : OW P ro N l l (Then P ro y Q) E ds w) : CW P ro N (.seq (.region i l.toArray false) y) Q E ds w := cw_seq (cw_region h)
theorem ss {P : Program} {ro : Option Nat} {N : Nat} {Q : Exit → Act → World → Prop} {E : List (Nat × Value)} {ds : List Deferred} {w : World} {x y z : Code}
    (h : CW P ro N (.seq x y) (Then P ro z Q) E ds w) : CW P ro N (.seq (.seq x y) z) Q E ds w := cw_seq h
theorem on {P : Program} {ro : Option Nat} {N : Nat} {l : List Oper} {Q : Exit → Act → World → Prop} {E : List (Nat × Value)} {ds : List Deferred} {w : World} {y : Code}
    (h : CW P ro N y Q E ds w) : OW P ro N l [] (Then P ro y Q) E ds w := ow_nil (pn_then h)

/-! ## What is known besides; parting -/
section
variable {P : Program} {ro : Option Nat} {N : Nat} {l rest : List Oper} {Q : Exit → Act → World → Prop} {E : List (Nat × Value)} {ds : List Deferred} {w : World} {c : Code} {e : Exit}
theorem Kn.know {a : Act} {u v : Value} {i : Nat} (hk : Kn N E a) (hl : look E i = some u) (he : u = v) : Kn N ((i, v) :: E) a := by
  subst he
  refine ⟨hk.1, fun j x hj => ?_⟩
  simp only [look] at hj
  split at hj
  · rename_i hb
    have := Nat.eq_of_beq_eq_true hb
    subst this
    cases hj
    exact hk.2 _ _ hl
  · exact hk.2 _ _ hj
theorem o_know (i : Nat) {u : Value} (v : Value) (hl : look E i = some u) (he : u = v) (h : OW P ro N l rest Q ((i, v) :: E) ds w) : OW P ro N l rest Q E ds w := fun a hk hd => h a (hk.know hl he) hd
theorem o_split (i : Nat) {b : Bool} (hl : look E i = some (.bool b)) (ht : b = true → OW P ro N l rest Q ((i, .bool true) :: E) ds w) (hf : b = false → OW P ro N l rest Q ((i, .bool false) :: E) ds w) : OW P ro N l rest Q E ds w := by
  cases b with
  | true => exact o_know i _ hl rfl (ht rfl)
  | false => exact o_know i _ hl rfl (hf rfl)
theorem o_if (i : Nat) {p : Prop} [Decidable p] (hl : look E i = some (.bool (decide p))) (ht : p → OW P ro N l rest Q ((i, .bool true) :: E) ds w) (hf : ¬ p → OW P ro N l rest Q ((i, .bool false) :: E) ds w) : OW P ro N l rest Q E ds w :=
  o_split i hl (fun h => ht (of_decide_eq_true h)) (fun h => hf (of_decide_eq_false h))
theorem o_sub {E' : List (Nat × Value)} (hs : Sub E' E) (h : OW P ro N l rest Q E' ds w) : OW P ro N l rest Q E ds w := fun a hk hd => h a (hk.sub hs) hd
theorem cw_know (i : Nat) {u : Value} (v : Value) (hl : look E i = some u) (he : u = v) (h : CW P ro N c Q ((i, v) :: E) ds w) : CW P ro N c Q E ds w := fun a hk hd => h a (hk.know hl he) hd
theorem cw_if {x y : Code} {o : Operand} {p : Prop} [Decidable p] (hc : ev E o = some (.bool (decide p))) (ht : p → CW P ro N x Q E ds w) (hf : ¬ p → CW P ro N y Q E ds w) :
    CW P ro N (.cond o x y) Q E ds w := cw_cond hc (fun h => ht (of_decide_eq_true h)) (fun h => hf (of_decide_eq_false h))
end

/-! ## A function is entered and left -/
def ents : Nat → List Value → List (Nat × Value)
  | _, [] => []
  | k, v :: vs => (k, v) :: ents (k + 1) vs

theorem look_ents : ∀ (vs : List Value) (k i : Nat) (v : Value), look (ents k vs) i = some v → k ≤ i ∧ vs[i - k]? = some v := by
  intro vs
  induction vs with
  | nil => intro k i v h; simp [ents, look] at h
  | cons u vs ih =>
    intro k i v h
    simp only [ents, look] at h
    split at h
    · rename_i hb
      have := Nat.eq_of_beq_eq_true hb
      subst this
      cases h
      simp
    · obtain ⟨h1, h2⟩ := ih _ _ _ h
      refine ⟨by omega, ?_⟩
      rw [show i - k = (i - (k + 1)) + 1 from by omega]
      simpa using h2

theorem enter {P : Program} {f : FuncId} {fn : Func} {c : Code} {args : List Value} {w : World} {R : Ending → World → Prop} (hf : P.funcs[f]? = some fn) (hb : fn.body = some c)
    (hn : Nat.ble args.length fn.ntmps = true) (h : CW P none fn.ntmps c (bodyPost P fn R) (ents 0 args) [] w) : Calls P f args.toArray w R := by
  refine calls_of_FR (ro := none) (n := 0) (callsIn_of_wp hf hb trivial ?_ rfl)
  have hn := Nat.le_of_ble_eq_true hn
  refine h _ ⟨by simp; omega, fun i v hi => ?_⟩ rfl
  obtain ⟨_, h2⟩ := look_ents _ _ _ _ hi
  simp only [Nat.sub_zero] at h2
  have hlt : i < args.length := (List.getElem?_eq_some_iff.1 h2).1
  rw [List.getElem?_eq_getElem hlt] at h2
  simp only [Option.some.injEq] at h2
  simp [Array.getElem?_append, hlt, h2]
theorem enter0 {P : Program} {f : FuncId} {fn : Func} {c : Code} {w : World} {R : Ending → World → Prop} (hf : P.funcs[f]? = some fn) (hb : fn.body = some c)
    (hn : Nat.ble 0 fn.ntmps = true) (h : CW P none fn.ntmps c (bodyPost P fn R) [] [] w) : Calls P f #[] w R := enter (args := []) hf hb hn h
theorem enter1 {P : Program} {f : FuncId} {fn : Func} {c : Code} {v0 : Value} {w : World} {R : Ending → World → Prop} (hf : P.funcs[f]? = some fn) (hb : fn.body = some c)
    (hn : Nat.ble 1 fn.ntmps = true) (h : CW P none fn.ntmps c (bodyPost P fn R) [(0, v0)] [] w) : Calls P f #[v0] w R := enter (args := [v0]) hf hb hn h
theorem enter2 {P : Program} {f : FuncId} {fn : Func} {c : Code} {v0 v1 : Value} {w : World} {R : Ending → World → Prop} (hf : P.funcs[f]? = some fn) (hb : fn.body = some c)
    (hn : Nat.ble 2 fn.ntmps = true) (h : CW P none fn.ntmps c (bodyPost P fn R) [(0, v0), (1, v1)] [] w) : Calls P f #[v0, v1] w R := enter (args := [v0, v1]) hf hb hn h
theorem enter3 {P : Program} {f : FuncId} {fn : Func} {c : Code} {v0 v1 v2 : Value} {w : World} {R : Ending → World → Prop} (hf : P.funcs[f]? = some fn) (hb : fn.body = some c)
    (hn : Nat.ble 3 fn.ntmps = true) (h : CW P none fn.ntmps c (bodyPost P fn R) [(0, v0), (1, v1), (2, v2)] [] w) : Calls P f #[v0, v1, v2] w R := enter (args := [v0, v1, v2]) hf hb hn h
theorem enter4 {P : Program} {f : FuncId} {fn : Func} {c : Code} {v0 v1 v2 v3 : Value} {w : World} {R : Ending → World → Prop} (hf : P.funcs[f]? = some fn) (hb : fn.body = some c)
    (hn : Nat.ble 4 fn.ntmps = true) (h : CW P none fn.ntmps c (bodyPost P fn R) [(0, v0), (1, v1), (2, v2), (3, v3)] [] w) : Calls P f #[v0, v1, v2, v3] w R := enter (args := [v0, v1, v2, v3]) hf hb hn h
theorem enter5 {P : Program} {f : FuncId} {fn : Func} {c : Code} {v0 v1 v2 v3 v4 : Value} {w : World} {R : Ending → World → Prop} (hf : P.funcs[f]? = some fn) (hb : fn.body = some c)
    (hn : Nat.ble 5 fn.ntmps = true) (h : CW P none fn.ntmps c (bodyPost P fn R) [(0, v0), (1, v1), (2, v2), (3, v3), (4, v4)] [] w) : Calls P f #[v0, v1, v2, v3, v4] w R := enter (args := [v0, v1, v2, v3, v4]) hf hb hn h
theorem enter6 {P : Program} {f : FuncId} {fn : Func} {c : Code} {v0 v1 v2 v3 v4 v5 : Value} {w : World} {R : Ending → World → Prop} (hf : P.funcs[f]? = some fn) (hb : fn.body = some c)
    (hn : Nat.ble 6 fn.ntmps = true) (h : CW P none fn.ntmps c (bodyPost P fn R) [(0, v0), (1, v1), (2, v2), (3, v3), (4, v4), (5, v5)] [] w) : Calls P f #[v0, v1, v2, v3, v4, v5] w R := enter (args := [v0, v1, v2, v3, v4, v5]) hf hb hn h
theorem enter7 {P : Program} {f : FuncId} {fn : Func} {c : Code} {v0 v1 v2 v3 v4 v5 v6 : Value} {w : World} {R : Ending → World → Prop} (hf : P.funcs[f]? = some fn) (hb : fn.body = some c)
    (hn : Nat.ble 7 fn.ntmps = true) (h : CW P none fn.ntmps c (bodyPost P fn R) [(0, v0), (1, v1), (2, v2), (3, v3), (4, v4), (5, v5), (6, v6)] [] w) : Calls P f #[v0, v1, v2, v3, v4, v5, v6] w R := enter (args := [v0, v1, v2, v3, v4, v5, v6]) hf hb hn h
theorem enter8 {P : Program} {f : FuncId} {fn : Func} {c : Code} {v0 v1 v2 v3 v4 v5 v6 v7 : Value} {w : World} {R : Ending → World → Prop} (hf : P.funcs[f]? = some fn) (hb : fn.body = some c)
    (hn : Nat.ble 8 fn.ntmps = true) (h : CW P none fn.ntmps c (bodyPost P fn R) [(0, v0), (1, v1), (2, v2), (3, v3), (4, v4), (5, v5), (6, v6), (7, v7)] [] w) : Calls P f #[v0, v1, v2, v3, v4, v5, v6, v7] w R := enter (args := [v0, v1, v2, v3, v4, v5, v6, v7]) hf hb hn h

section
variable {P : Program} {N : Nat} {E : List (Nat × Value)} {w : World} {fn : Func} {R : Ending → World → Prop}
theorem pn_ret {t : Nat} {v : Value} (hr : fn.results = #[.tmp t]) (hv : look E t = some v) (h : R (.returned v) w) : PN N (bodyPost P fn R) .ret E [] w := by
  intro a hk hd
  refine ⟨hd, v, ?_, h⟩
  have := hk.2 _ _ hv
  simp [results, hr, Array.getD_eq_getD_getElem?, this]
theorem pn_ret2 {t u : Nat} {v v' : Value} (hr : fn.results = #[.tmp t, .tmp u]) (hv : look E t = some v) (hv' : look E u = some v') (h : R (.returned (.tuple #[v, v'])) w) : PN N (bodyPost P fn R) .ret E [] w := by
  intro a hk hd
  refine ⟨hd, .tuple #[v, v'], ?_, h⟩
  have := hk.2 _ _ hv
  have h2 := hk.2 _ _ hv'
  simp [results, hr, Array.getD_eq_getD_getElem?, this, h2]
theorem pn_end0 (hr : fn.results = #[]) (h : R (.returned (.tuple #[])) w) : PN N (bodyPost P fn R) .normal E [] w := by
  intro a hk hd
  exact ⟨hd, .tuple #[], by simp [results, hr], h⟩
theorem pn_ret0 (hr : fn.results = #[]) (h : R (.returned (.tuple #[])) w) : PN N (bodyPost P fn R) .ret E [] w := by
  intro a hk hd
  exact ⟨hd, .tuple #[], by simp [results, hr], h⟩
end
end Go.Eng
