/- The engine, part eight: a range over a function: the statement, its rounds, a call of yield, the function's leaving. Conditions: none. -/
import Derived.Test.YtgebobjihojljaaEngG
namespace Go.Eng
open Go Go.RowKit

theorem Fr.putObj (w : World) (r : Nat) (o : Obj) : Fr (· = r) w (w.putObj r o) :=
  ⟨rfl, rfl, rfl, by simp [World.putObj], fun k _ hne => World.putObj_heap_other hne⟩

/-- A call of yield, as whoever calls it sees it. -/
def Yld (P : Program) (l : Nat) (args : Array Value) (W : World) (R : Ending → World → Prop) : Prop :=
  ∃ fn tmps assign body, (Instr.yield l args).run P W = .ok (.round l fn tmps assign body) W ∧ RoundIn (FR none) 0 P l fn tmps assign body W R

theorem Yld.mono {P : Program} {l : Nat} {args : Array Value} {W : World} {R R' : Ending → World → Prop} (h : Yld P l args W R) (hr : ∀ e w', R e w' → R' e w') : Yld P l args W R' :=
  let ⟨fn, tmps, assign, body, h1, h2⟩ := h
  ⟨fn, tmps, assign, body, h1, h2.mono hr⟩

/-- A call's yield and its arguments. -/
def yieldOf (E : List (Nat × Value)) : Op → Option (Nat × List Value)
  | .call { callee := .value f, args := xs, argTypes := _ } => match ev E f, evs E xs.toList with
    | some (.func (.yield k) ⟨[]⟩ ⟨[]⟩), some vs => some (k, vs)
    | _, _ => none
  | _ => none

theorem run_yieldOf {P : Program} {E : List (Nat × Value)} {op : Op} {w : World} {k : Nat} {vs : List Value} (h : yieldOf E op = some (k, vs)) (ρ : Operand → Value) (o : Oper)
    (hρ : ∀ x u, ev E x = some u → ρ x = u) (ho : o.op = op) : (execOp ρ o).run P w = (Instr.yield k vs.toArray).run P w := by
  unfold yieldOf at h
  split at h
  · rename_i fo xs at'
    split at h
    · rename_i k vs' h1 h2
      simp only [Option.some.injEq, Prod.mk.injEq] at h
      obtain ⟨rfl, rfl⟩ := h
      have e1 := hρ _ _ h1
      have e4 : xs.map ρ = vs'.toArray := by
        apply Array.ext'
        simpa using evs_map hρ _ _ h2
      simp [execOp, ho, resolve, e1, e4, Deferred.ofValue, invoke]
    · cases h
  · cases h

section
variable {P : Program} {ro : Option Nat} {N : Nat} {l rest : List Oper} {Q : Exit → Act → World → Prop} {E : List (Nat × Value)} {ds : List Deferred} {w w' : World}
  {d : Nat} {op : Op} {ty : TypeId} {pos : String} {aft : Array Edge} {g : Option (Nat × Bool)} {v : Value}

theorem ow_yield {k : Nat} {vs : List Value} (hg : wants l E g = some true) (hx : yieldOf E op = some (k, vs)) (hd : Nat.blt d N = true)
    (h : Yld P k vs.toArray w fun e w' => ∃ v, e = .returned v ∧ OW P ro N l rest Q ((d, v) :: E) ds w') :
    OW P ro N l (⟨some d, op, ty, pos, aft, g⟩ :: rest) Q E ds w := by
  intro a hk hds
  unfold wpListIn
  rw [wanted_of (o := ⟨some d, op, ty, pos, aft, g⟩) hk hg]
  simp only [if_true]
  obtain ⟨fn, tmps, assign, body, hr, hR⟩ := h
  have hr' := run_yieldOf (P := P) (w := w) hx a.eval ⟨some d, op, ty, pos, aft, g⟩ hk.hyp rfl
  rw [hr] at hr'
  refine ⟨fun f _ => FR_fn ro f, ?_⟩
  rw [semAt_of_ok (by simp) hr', Oper.uponIn_round]
  refine ⟨fun h => by simp [Fence.wide] at h, (show RoundIn (FR ro) 0 P k fn tmps assign body w _ from hR).mono ?_⟩
  rintro e w' ⟨v, rfl, h'⟩
  exact h' _ (hk.put hd) hds

variable {fl : Oper → Bool} {S : World → Prop} {k : Nat}
theorem dw_yield {m : Nat} {vs : List Value} (hg : wants l E g = some true) (hf : fl ⟨some d, op, ty, pos, aft, g⟩ = false) (hx : yieldOf E op = some (m, vs)) (hd : Nat.blt d N = true)
    (h : Yld P m vs.toArray w fun e w' => ∃ v, e = .returned v ∧ S w' ∧ DW P fl ro N S l (k + 1) rest Q ((d, v) :: E) ds w') :
    DW P fl ro N S l k (⟨some d, op, ty, pos, aft, g⟩ :: rest) Q E ds w := by
  intro a hk hds hS hl
  obtain ⟨ho, hl'⟩ := dw_tail hl
  have hw := wanted_of (o := ⟨some d, op, ty, pos, aft, g⟩) hk hg
  rw [List.length_cons, List.range'_succ]
  obtain ⟨fn, tmps, assign, body, hr, hR⟩ := h
  have hr' := run_yieldOf (P := P) (w := w) hx a.eval ⟨some d, op, ty, pos, aft, g⟩ hk.hyp rfl
  rw [hr] at hr'
  refine ⟨_, ho, fun _ => .inr ⟨hf, ?_⟩, fun hc => ?_⟩
  · unfold Eff
    rw [hr']
    exact (show RoundIn (FR ro) 0 P m fn tmps assign body w _ from hR).mono fun e w' ⟨v, he, hS', h'⟩ => ⟨v, he, hS', h' _ (hk.put hd) (by rw [put_defers']; exact hds) hS' hl'⟩
  · rw [hw] at hc; cases hc

/-! ## A round -/
def ezip : List Nat → List Value → List (Nat × Value) → List (Nat × Value)
  | p :: ps, v :: vs, E => ezip ps vs ((p, v) :: E)
  | _, _, E => E

theorem Kn.zip {N : Nat} : ∀ (ps : List Nat) (vs : List Value) (E : List (Nat × Value)) (T : Array Value), (∀ p ∈ ps, p < N) → Kn N E ⟨T, []⟩ →
    Kn N (ezip ps vs E) ⟨(ps.zip vs).foldl (fun t (p : Nat × Value) => t.setIfInBounds p.1 p.2) T, []⟩ := by
  intro ps
  induction ps with
  | nil => intro vs E T _ h; simpa [ezip] using h
  | cons p ps ih =>
    intro vs E T hp h
    cases vs with
    | nil => simpa [ezip] using h
    | cons v vs =>
      simp only [ezip, List.zip_cons_cons, List.foldl_cons]
      refine ih vs _ _ (fun q hq => hp q (List.mem_cons_of_mem _ hq)) ?_
      have := h.put (d := p) (v := v) (by simpa [Nat.blt] using Nat.ble_eq_true_of_le (hp p List.mem_cons_self))
      exact this

/-- What is asked behind the assignment to the loop's left sides. -/
def Asg (P : Program) (l : Nat) (body : Code) (R : Ending → World → Prop) : Exit → Act → World → Prop :=
  Exit.then (fun a1 w1 => ∃ w2, (Instr.beginRound l).run P w1 = .ok () w2 ∧ body.wpIn (FR (some l)) 0 P (roundPost P l R) a1 w2) (fun _ _ _ => False)

theorem yield_of {m : Nat} {r : Loop} {vs : List Value} {R : Ending → World → Prop} (hl : w.heap[m]? = some (.loop r)) (hsz : vs.length = r.params.size) (hp : ∀ p ∈ r.params.toList, p < N)
    (hk : Kn N E ⟨r.tmps, []⟩) (h : CW P (some m) N r.assign (Asg P m r.body R) (ezip r.params.toList vs E) [] w) : Yld P m vs.toArray w R := by
  have hy := run_yield (P := P) (args := vs.toArray) hl (by simpa using hsz)
  refine ⟨_, _, _, _, hy, ?_⟩
  have e : (r.params.zip vs.toArray).foldl (fun tmps (x : Nat × Value) => tmps.setIfInBounds x.1 x.2) r.tmps = (r.params.toList.zip vs).foldl (fun t (p : Nat × Value) => t.setIfInBounds p.1 p.2) r.tmps := by
    rw [← Array.foldl_toList]
    simp
  refine roundIn_of_wpIn (F := FR none) trivial ?_
  rw [e]
  exact h _ (Kn.zip _ _ _ _ hp hk) rfl

theorem pn_asg {m : Nat} {r : Loop} {body : Code} {R : Ending → World → Prop} (hl : w.heap[m]? = some (.loop r)) (hst : r.state = .ready)
    (h : CW P (some m) N body (roundPost P m R) E ds (w.putObj m (.loop { r with state := .busy }))) : PN N (Asg P m body R) .normal E ds w :=
  fun a hk hd => ⟨_, run_beginRound hl hst, h a hk hd⟩

theorem pn_round_go {m : Nat} {r : Loop} {R : Ending → World → Prop} (hl : w.heap[m]? = some (.loop r))
    (h : R (.returned (.bool true)) (w.putObj m (.loop { r with state := .ready, pending := none }))) : PN N (roundPost P m R) .normal E ds w :=
  fun _ _ _ => ⟨_, _, run_endRound none hl, h⟩
theorem pn_round_ret {m : Nat} {r : Loop} {R : Ending → World → Prop} (hl : w.heap[m]? = some (.loop r))
    (h : R (.returned (.bool false)) (w.putObj m (.loop { r with state := .done, pending := some .ret }))) : PN N (roundPost P m R) .ret E ds w :=
  fun _ _ _ => ⟨_, _, run_endRound (some .ret) hl, h⟩
theorem pn_round_exit {m i : Nat} {r : Loop} {R : Ending → World → Prop} (hl : w.heap[m]? = some (.loop r))
    (h : R (.returned (.bool false)) (w.putObj m (.loop { r with state := .done, pending := some (.exit i) }))) : PN N (roundPost P m R) (.exit i) E ds w :=
  fun _ _ _ => ⟨_, _, run_endRound (some (.exit i)) hl, h⟩

/-- The mark that a range over a function leaves among the deferred calls. -/
def markOf (D : Nat) : Deferred := { target := .collected D, args := #[] }

/-- The statement, at an outermost loop. -/
theorem cw_rangeFunc {go : Operand} {ps : Array Tmp} {assign body : Code} {gf : FuncId} {caps : List Value} (hg : ev E go = some (.func (.func gf) ⟨[]⟩ ⟨caps⟩)) [hb : Bodied P gf]
    (h : ∀ (r : Loop), r.state = .ready → r.pending = none → r.params = ps → r.assign = assign → r.body = body → r.defers = w.heap.size → Kn N E ⟨r.tmps, []⟩ →
      Calls P gf ((.func (.yield (w.heap.size + 1)) #[] #[]) :: caps).toArray ((w.alloc (.deferred (some []))).alloc (.loop r)) fun e w3 =>
        (∃ v, e = .returned v) ∧ ∃ r' : Loop, w3.heap[w.heap.size + 1]? = some (.loop r') ∧ r'.state ≠ .busy ∧
          (match r'.pending with
           | none => PN N Q .normal E (markOf w.heap.size :: ds) (w3.putObj (w.heap.size + 1) (.loop { r' with state := .exhausted }))
           | some c => CW P none N c Q E (markOf w.heap.size :: ds) (w3.putObj (w.heap.size + 1) (.loop { r' with state := .exhausted })))) :
    CW P none N (.rangeFunc go ps assign body) Q E ds w := by
  intro a hk hd
  refine wpIn_rangeFunc (F := FR none) ?_
  intro fn _
  have hgv := hk.ev hg
  refine ⟨w.heap.size + 1, [markOf w.heap.size], ((w.alloc (.deferred (some []))).alloc (.loop { state := .ready, pending := none, fn, tmps := a.tmps, params := ps, assign, body, defers := w.heap.size })), { target := .fn (.func gf) ⟨caps⟩, args := #[.func (.yield (w.heap.size + 1)) #[] #[]] }, ((w.alloc (.deferred (some []))).alloc (.loop { state := .ready, pending := none, fn, tmps := a.tmps, params := ps, assign, body, defers := w.heap.size })), gf, ((.func (.yield (w.heap.size + 1)) #[] #[]) :: caps).toArray, ((w.alloc (.deferred (some []))).alloc (.loop { state := .ready, pending := none, fn, tmps := a.tmps, params := ps, assign, body, defers := w.heap.size })),
    run_enterLoop_outer fn a.tmps ps assign body, ?_, fun f' _ => trivial, ?_, fun h => by simp [Fence.wide] at h, ?_⟩
  · simp only [resolve, hgv]
    simp [Deferred.ofValue, Act.eval]
  · have := hb.run ((.func (.yield (w.heap.size + 1)) #[] #[]) :: caps).toArray ((w.alloc (.deferred (some []))).alloc (.loop { state := .ready, pending := none, fn, tmps := a.tmps, params := ps, assign, body, defers := w.heap.size }))
    simpa [invoke] using this
  · refine (calls_FR (h { state := .ready, pending := none, fn, tmps := a.tmps, params := ps, assign, body, defers := w.heap.size } rfl rfl rfl rfl rfl rfl ⟨hk.1, hk.2⟩)).mono ?_
    rintro e w3 ⟨⟨v, rfl⟩, r', hl, hst, hm⟩
    refine ⟨_, _, run_endLoop hl hst, ?_⟩
    have hk' : Kn N E { a with defers := [markOf w.heap.size] ++ a.defers } := ⟨hk.1, hk.2⟩
    have hd' : ({ a with defers := [markOf w.heap.size] ++ a.defers } : Act).defers = markOf w.heap.size :: ds := by simp [hd]
    cases hp : r'.pending with
    | none => rw [hp] at hm; exact hm _ hk' hd'
    | some c => rw [hp] at hm; exact hm _ hk' hd'

/-! ## Such a function is entered and left -/
theorem enterM {P : Program} {f : FuncId} {fn : Func} {c : Code} {args : List Value} {w : World} {R : Ending → World → Prop} (hf : P.funcs[f]? = some fn) (hb : fn.body = some c)
    (hn : Nat.ble args.length fn.ntmps = true) (h : CW P none fn.ntmps c (bodyPostM (FR none) 0 P fn R) (ents 0 args) [] w) : Calls P f args.toArray w R := by
  refine calls_of_FR (ro := none) (n := 0) (callsIn_of_wp_marks hf hb trivial ?_ rfl)
  have hn := Nat.le_of_ble_eq_true hn
  refine h _ ⟨by simp; omega, fun i v hi => ?_⟩ rfl
  obtain ⟨_, h2⟩ := look_ents _ _ _ _ hi
  simp only [Nat.sub_zero] at h2
  have hlt : i < args.length := (List.getElem?_eq_some_iff.1 h2).1
  rw [List.getElem?_eq_getElem hlt] at h2
  simp only [Option.some.injEq] at h2
  simp [Array.getElem?_append, hlt, h2]
theorem enterM1 {P : Program} {f : FuncId} {fn : Func} {c : Code} {v0 : Value} {w : World} {R : Ending → World → Prop} (hf : P.funcs[f]? = some fn) (hb : fn.body = some c)
    (hn : Nat.ble 1 fn.ntmps = true) (h : CW P none fn.ntmps c (bodyPostM (FR none) 0 P fn R) [(0, v0)] [] w) : Calls P f #[v0] w R := enterM (args := [v0]) hf hb hn h
theorem enterM2 {P : Program} {f : FuncId} {fn : Func} {c : Code} {v0 v1 : Value} {w : World} {R : Ending → World → Prop} (hf : P.funcs[f]? = some fn) (hb : fn.body = some c)
    (hn : Nat.ble 2 fn.ntmps = true) (h : CW P none fn.ntmps c (bodyPostM (FR none) 0 P fn R) [(0, v0), (1, v1)] [] w) : Calls P f #[v0, v1] w R := enterM (args := [v0, v1]) hf hb hn h
theorem enterM3 {P : Program} {f : FuncId} {fn : Func} {c : Code} {v0 v1 v2 : Value} {w : World} {R : Ending → World → Prop} (hf : P.funcs[f]? = some fn) (hb : fn.body = some c)
    (hn : Nat.ble 3 fn.ntmps = true) (h : CW P none fn.ntmps c (bodyPostM (FR none) 0 P fn R) [(0, v0), (1, v1), (2, v2)] [] w) : Calls P f #[v0, v1, v2] w R := enterM (args := [v0, v1, v2]) hf hb hn h

theorem pn_retM {fn : Func} {R : Ending → World → Prop} {t D : Nat} (hr : fn.results = #[.tmp t]) (hv : look E t = some v) (hD : w.heap[D]? = some (.deferred (some [])))
    (h : R (.returned v) (w.putObj D (.deferred none))) : PN N (bodyPostM (FR none) 0 P fn R) .ret E [markOf D] w := by
  intro a hk hd
  have := hk.2 _ _ hv
  show LeavesInM (FR none) 0 P fn a.tmps R a.defers .returning w
  rw [hd]
  refine ⟨by simp, .inl ⟨D, _, rfl, run_takeDeferred hD, ?_⟩⟩
  refine ⟨v, ?_, h⟩
  simp [results, hr, Array.getD_eq_getD_getElem?, this]
end
end Go.Eng
