/- The engine, part one: stepping through the code of one function on partial knowledge of its slots. Conditions: none; it holds of every program. -/
import Derived.RangeFuncLeaves
import Derived.RangeFuncRecord
import Derived.RangeFuncCalls
import Derived.TacticsIn
import Derived.WalkKit
namespace Go.Eng
open Go

/-- The fence that lets all in; in a round of the loop l, if there is one. -/
abbrev FR (ro : Option Nat) : Fence := { Fence.wide with round := ro }

theorem FR_fn (ro : Option Nat) (f : FuncId) : (FR ro).fn f := trivial
theorem FR_depth (ro : Option Nat) : (FR ro).depth = none := rfl

/-- What is known of the slots. -/
def look : List (Nat × Value) → Nat → Option Value
  | [], _ => none
  | (j, v) :: E, i => match Nat.beq j i with
    | true => some v
    | false => look E i

def Kn (N : Nat) (E : List (Nat × Value)) (a : Act) : Prop := a.tmps.size = N ∧ ∀ i v, look E i = some v → a.tmps[i]? = some v

theorem Kn.put {N : Nat} {E : List (Nat × Value)} {a : Act} (h : Kn N E a) {d : Nat} {v : Value} (hd : Nat.blt d N = true) : Kn N ((d, v) :: E) (a.put (some d) v) := by
  have hd' : d < N := Nat.le_of_ble_eq_true hd
  refine ⟨by simp [Act.put, h.1], fun i u hi => ?_⟩
  simp only [look] at hi
  split at hi
  · rename_i hb
    have := Nat.eq_of_beq_eq_true hb
    subst this
    cases hi
    have hlt : d < a.tmps.size := by rw [h.1]; exact hd'
    simp [Act.put, hlt]
  · rename_i hb
    have hne : d ≠ i := by
      intro e
      subst e
      have : Nat.beq d d = true := Nat.beq_refl d
      rw [this] at hb; cases hb
    simp only [Act.put]
    rw [Array.getElem?_setIfInBounds_ne hne]
    exact h.2 i u hi

theorem Kn.putNone {N : Nat} {E : List (Nat × Value)} {a : Act} (h : Kn N E a) {v : Value} : Kn N E (a.put none v) := h

/-- The knowledge of E' follows from that of E. -/
def Sub : List (Nat × Value) → List (Nat × Value) → Prop
  | [], _ => True
  | (i, v) :: E', E => look E i = some v ∧ Sub E' E

theorem Sub.look {E' E : List (Nat × Value)} (h : Sub E' E) : ∀ i v, look E' i = some v → look E i = some v := by
  induction E' with
  | nil => intro i v hi; simp [Eng.look] at hi
  | cons p E' ih =>
    obtain ⟨j, u⟩ := p
    intro i v hi
    simp only [Eng.look] at hi
    split at hi
    · rename_i hb
      have := Nat.eq_of_beq_eq_true hb
      subst this
      cases hi
      exact h.1
    · exact ih h.2 i v hi

theorem Kn.sub {N : Nat} {E' E : List (Nat × Value)} {a : Act} (hs : Sub E' E) (h : Kn N E a) : Kn N E' a := ⟨h.1, fun i v hi => h.2 i v (hs.look i v hi)⟩

def ev (E : List (Nat × Value)) : Operand → Option Value
  | .tmp t => look E t
  | .const v => some v
  | .global g => some (.pointer (some ⟨g, 0, none⟩))
  | .func f => some (.func (.func f) #[] #[])

theorem Kn.ev {N : Nat} {E : List (Nat × Value)} {a : Act} (h : Kn N E a) {x : Operand} {v : Value} (hx : ev E x = some v) : a.eval x = v := by
  cases x with
  | tmp t =>
    have := h.2 t v hx
    simp [Act.eval, Array.getD_eq_getD_getElem?, this]
  | const u => simpa [Eng.ev, Act.eval] using hx
  | global g => simpa [Eng.ev, Act.eval] using hx
  | func f => simpa [Eng.ev, Act.eval] using hx

def evs (E : List (Nat × Value)) : List Operand → Option (List Value)
  | [] => some []
  | x :: xs => match ev E x, evs E xs with
    | some v, some vs => some (v :: vs)
    | _, _ => none

theorem Kn.evs {N : Nat} {E : List (Nat × Value)} {a : Act} (h : Kn N E a) : ∀ {xs : List Operand} {vs : List Value}, evs E xs = some vs → xs.map a.eval = vs
  | [], vs, hx => by simp [Eng.evs] at hx; simp [hx]
  | x :: xs, vs, hx => by
    simp only [Eng.evs] at hx
    split at hx
    · rename_i v vs' h1 h2
      cases hx
      simp [h.ev h1, h.evs h2]
    · cases hx

/-! ## Code -/
section
variable {P : Program} {ro : Option Nat} {N : Nat} {Q : Exit → Act → World → Prop} {E : List (Nat × Value)} {ds : List Deferred} {w : World}

def CW (P : Program) (ro : Option Nat) (N : Nat) (c : Code) (Q : Exit → Act → World → Prop) (E : List (Nat × Value)) (ds : List Deferred) (w : World) : Prop :=
  ∀ a, Kn N E a → a.defers = ds → c.wpIn (FR ro) 0 P Q a w

def PN (N : Nat) (Q : Exit → Act → World → Prop) (e : Exit) (E : List (Nat × Value)) (ds : List Deferred) (w : World) : Prop :=
  ∀ a, Kn N E a → a.defers = ds → Q e a w

def Then (P : Program) (ro : Option Nat) (c : Code) (Q : Exit → Act → World → Prop) : Exit → Act → World → Prop := Exit.then (c.wpIn (FR ro) 0 P Q) Q

theorem cw_seq {x y : Code} (h : CW P ro N x (Then P ro y Q) E ds w) : CW P ro N (.seq x y) Q E ds w := fun a hk hd => wpIn_seq (h a hk hd)
theorem pn_then {y : Code} (h : CW P ro N y Q E ds w) : PN N (Then P ro y Q) .normal E ds w := fun a hk hd => h a hk hd
theorem pn_then_ret {y : Code} (h : PN N Q .ret E ds w) : PN N (Then P ro y Q) .ret E ds w := fun a hk hd => h a hk hd
theorem pn_then_exit {y : Code} {i : Nat} (h : PN N Q (.exit i) E ds w) : PN N (Then P ro y Q) (.exit i) E ds w := fun a hk hd => h a hk hd
theorem cw_block {x : Code} {i : Nat} (h : CW P ro N x (Exit.inBlock i Q) E ds w) : CW P ro N (.block i x) Q E ds w := fun a hk hd => wpIn_block (h a hk hd)
theorem pn_block {i : Nat} (h : PN N Q .normal E ds w) : PN N (Exit.inBlock i Q) .normal E ds w := fun a hk hd => h a hk hd
theorem pn_block_ret {i : Nat} (h : PN N Q .ret E ds w) : PN N (Exit.inBlock i Q) .ret E ds w := fun a hk hd => h a hk hd
theorem pn_block_exit {i : Nat} (h : PN N Q .normal E ds w) : PN N (Exit.inBlock i Q) (.exit i) E ds w := fun a hk hd => by
  simp only [Exit.inBlock, if_true]; exact h a hk hd
theorem pn_block_other {i j : Nat} (hij : Nat.beq j i = false) (h : PN N Q (.exit j) E ds w) : PN N (Exit.inBlock i Q) (.exit j) E ds w := fun a hk hd => by
  have : j ≠ i := by intro e; subst e; rw [Nat.beq_refl] at hij; cases hij
  simp only [Exit.inBlock, if_neg this]; exact h a hk hd
theorem cw_skip (h : PN N Q .normal E ds w) : CW P ro N .skip Q E ds w := fun a hk hd => wpIn_skip (h a hk hd)
theorem cw_ret (h : PN N Q .ret E ds w) : CW P ro N .ret Q E ds w := fun a hk hd => wpIn_ret (h a hk hd)
theorem cw_exit {i : Nat} (h : PN N Q (.exit i) E ds w) : CW P ro N (.exit i) Q E ds w := fun a hk hd => wpIn_exit (h a hk hd)
theorem cw_cond {c : Operand} {x y : Code} {b : Bool} (hc : ev E c = some (.bool b)) (ht : b = true → CW P ro N x Q E ds w) (hf : b = false → CW P ro N y Q E ds w) :
    CW P ro N (.cond c x y) Q E ds w := fun a hk hd => by
  cases b with
  | true => exact wpIn_cond_true (hk.ev hc) (ht rfl a hk hd)
  | false => exact wpIn_cond_false (hk.ev hc) (hf rfl a hk hd)
theorem cw_cond_t {c : Operand} {x y : Code} (hc : ev E c = some (.bool true)) (ht : CW P ro N x Q E ds w) : CW P ro N (.cond c x y) Q E ds w :=
  fun a hk hd => wpIn_cond_true (hk.ev hc) (ht a hk hd)
theorem cw_cond_f {c : Operand} {x y : Code} (hc : ev E c = some (.bool false)) (ht : CW P ro N y Q E ds w) : CW P ro N (.cond c x y) Q E ds w :=
  fun a hk hd => wpIn_cond_false (hk.ev hc) (ht a hk hd)
theorem cw_sub {c : Code} {E' : List (Nat × Value)} (hs : Sub E' E) (h : CW P ro N c Q E' ds w) : CW P ro N c Q E ds w := fun a hk hd => h a (hk.sub hs) hd
theorem pn_sub {e : Exit} {E' : List (Nat × Value)} (hs : Sub E' E) (h : PN N Q e E' ds w) : PN N Q e E ds w := fun a hk hd => h a (hk.sub hs) hd

/-- What a round owes. -/
def Rnd {G : Type} (N : Nat) (Eg : G → List (Nat × Value)) (J : G → World → Prop) (μ : G → Nat) (g : G) (ds : List Deferred) (a' : Act) (w' : World) : Prop :=
  ∃ g', Kn N (Eg g') a' ∧ a'.defers = ds ∧ J g' w' ∧ μ g' < μ g

/-- A loop. G: what is told of a round's beginning: the slots (Eg), the world (J); μ falls. -/
theorem cw_loop {G : Type} {c : Code} (Eg : G → List (Nat × Value)) (J : G → World → Prop) (μ : G → Nat)
    (h0 : ∃ g, Sub (Eg g) E ∧ J g w)
    (hr : ∀ g w, J g w → CW P ro N c (Exit.then (Rnd N Eg J μ g ds) Q) (Eg g) ds w) :
    CW P ro N (.loop c) Q E ds w := by
  intro a hk hd b k cs hro hb hroom
  have key : ∀ n g, μ g < n → ∀ a w, Kn N (Eg g) a → a.defers = ds → J g w →
      ∃ e a' w', Q e a' w' ∧ ArrivesIn (Machine.fenced P (FR ro)) P (lone (b.atR a (.code c :: .inLoop c :: k)) cs w) b k cs e a' w' := by
    intro n
    induction n with
    | zero => intro g h; omega
    | succ n ih =>
      intro g hg a w hk hd hJ
      obtain ⟨e, a₁, w₁, hq, harr⟩ := hr g w hJ a hk hd b (.inLoop c :: k) cs hro hb hroom
      cases e with
      | normal =>
        obtain ⟨g', hk', hd', hJ', hlt⟩ := hq
        obtain ⟨e₂, a₂, w₂, hq₂, harr₂⟩ := ih g' (by omega) a₁ w₁ hk' hd' hJ'
        exact ⟨e₂, a₂, w₂, hq₂, .of_steps (StepsIn.trans harr (.one (fenced_calm hb hroom rfl) stepR_inLoop)) harr₂⟩
      | exit id => exact ⟨_, a₁, w₁, hq, .pass (x := .inLoop c) rfl (fun _ _ => .inl (by simp)) harr⟩
      | goto l => exact ⟨_, a₁, w₁, hq, .pass (x := .inLoop c) rfl (fun _ _ => .inl (by simp)) harr⟩
      | ret => exact ⟨_, a₁, w₁, hq, .pass (x := .inLoop c) rfl (fun _ _ => .inl (by simp)) harr⟩
      | panic ch => exact ⟨_, a₁, w₁, hq, .pass (x := .inLoop c) rfl (fun _ _ => .inl (by simp)) harr⟩
      | outgrown => exact ⟨_, a₁, w₁, hq, .pass (x := .inLoop c) rfl (fun _ _ => .inl (by simp)) harr⟩
  obtain ⟨g, hs, hJ⟩ := h0
  obtain ⟨e₂, a₂, w₂, hq₂, harr₂⟩ := key (μ g + 1) g (Nat.lt_succ_self _) a w (hk.sub hs) hd hJ
  exact ⟨e₂, a₂, w₂, hq₂, .of_steps (.one (fenced_calm hb hroom rfl) stepR_loop) harr₂⟩
theorem pn_round {G : Type} {Eg : G → List (Nat × Value)} {J : G → World → Prop} {μ : G → Nat} {g : G} (g' : G) (hs : Sub (Eg g') E) (hJ : J g' w) (hlt : μ g' < μ g) :
    PN N (Exit.then (Rnd N Eg J μ g ds) Q) .normal E ds w :=
  fun _ hk hd => ⟨g', hk.sub hs, hd, hJ, hlt⟩
theorem pn_loop_ret {K : Act → World → Prop} (h : PN N Q .ret E ds w) : PN N (Exit.then K Q) .ret E ds w := fun a hk hd => h a hk hd
theorem pn_loop_exit {K : Act → World → Prop} {i : Nat} (h : PN N Q (.exit i) E ds w) : PN N (Exit.then K Q) (.exit i) E ds w := fun a hk hd => h a hk hd
end
end Go.Eng
