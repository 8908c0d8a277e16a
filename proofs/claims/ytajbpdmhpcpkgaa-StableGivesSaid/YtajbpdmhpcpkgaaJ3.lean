/- The engine, part twenty-six: a drawn region whose first part is unordered (new memory, calls): each operation's fact from the values of those that it names; then the rest in the order of the text. Conditions: as part seven. -/
import Derived.Test.YtajbpdmhpcpkgaaJ2
import Derived.Deep.Slices
import Derived.Laws.CopyRow
namespace Go.Eng
open Go Go.RowKit

/-- What an operation yields: a value; or new memory. -/
inductive FD where
  | val (v : Value)
  | new (t : Nat) (zs : List Value)
def dirs (o : Oper) : List Nat := (o.after.toList.filter (Region.binds .any ·)).map (·.on)
def okDirs (l : List Oper) (n : Nat) : Bool := (List.range n).all fun i => match l[i]? with | some o => (dirs o).all (ancs l i).contains && (ancs l i).all (Nat.blt · n) | none => false
def vv (D : List FD) (vs : Nat → Value) (j : Nat) : Value := match nth D j with | some (.val v) => v | _ => vs j
def fdF (D : List FD) (j : Nat) (vs : Nat → Value) (w : World) : Prop := match nth D j with
  | some (.val v) => vs j = v
  | some (.new t zs) => ∃ g, vs j = .pointer (some ⟨g, 0, none⟩) ∧ Blk w g t zs
  | none => True
def fdO (D : List FD) (j : Nat) (v : Value) : Option Nat := match nth D j with
  | some (.new _ _) => (match v with | .pointer (some a) => some a.block | _ => none)
  | _ => none
def gv (D : List FD) (gs : Nat → Nat) (j : Nat) : Value := match nth D j with | some (.val v) => v | _ => .pointer (some ⟨gs j, 0, none⟩)
def newF (gs : Nat → Nat) : Nat → List FD → List SP
  | _, [] => []
  | j, .val _ :: D => newF gs (j + 1) D
  | j, .new t zs :: D => pt (gs j) t zs :: newF gs (j + 1) D

section
variable {P : Program} {tt : Nat → Option TI} [TT P tt] {ro : Option Nat} {N n : Nat} {l rest : List Oper} {Q : Exit → Act → World → Prop} {E E0 : List (Nat × Value)} {ds : List Deferred} {b : World} {F F0 : List SP} {fl : Oper → Bool}

def OpOk (P : Program) (ro : Option Nat) (N : Nat) (l : List Oper) (E0 : List (Nat × Value)) (b : World) (F : List SP) (D : List FD) (o : Oper) (x : FD) : Prop :=
  ∀ vs a w', Sat b F w' → Kn N (knOf l E0 (vv D vs) (dirs o)) a → Eff P ro o a w' fun v w'' => Ext w' w'' ∧ match x with | .val u => v = u | .new t zs => ∃ g, v = .pointer (some ⟨g, 0, none⟩) ∧ Blk w'' g t zs ∧ w'.heap.size ≤ g
inductive SF (P : Program) (fl : Oper → Bool) (ro : Option Nat) (N n : Nat) (l : List Oper) (E0 : List (Nat × Value)) (ds : List Deferred) (b : World) (F F0 : List SP) (Q : Exit → Act → World → Prop) : List FD → List Oper → Prop
  | done {D : List FD} {rest : List Oper} (h0 : Nat.beq D.length n = true) (h : ∀ gs, Ent (newF gs 0 D ++ F) F0 ∧ SD P fl ro N F0 l n rest Q (knOf l E0 (gv D gs) (List.range n)) ds b (newF gs 0 D ++ F)) : SF P fl ro N n l E0 ds b F F0 Q D rest
  | step {D : List FD} {rest : List Oper} {o : Oper} {x : FD} (h1 : OpOk P ro N l E0 b F D o x) (h : SF P fl ro N n l E0 ds b F F0 Q (D ++ [x]) rest) : SF P fl ro N n l E0 ds b F F0 Q D (o :: rest)

theorem nth_app {D D' : List FD} {j : Nat} {x : FD} (h : nth D j = some x) : nth (D ++ D') j = some x := by
  rw [nth_eq] at h ⊢
  rw [List.getElem?_append_left (List.getElem?_eq_some_iff.1 h).1]; exact h
theorem knOf_congr {vs vs' : Nat → Value} : ∀ {L : List Nat}, (∀ j ∈ L, vs j = vs' j) → knOf l E0 vs L = knOf l E0 vs' L
  | [], _ => rfl
  | j :: L, h => by simp only [knOf]; rw [h j (by simp), knOf_congr (L := L) fun i hi => h i (by simp [hi])]
theorem SF.facts {D : List FD} {rest : List Oper} (h : SF P fl ro N n l E0 ds b F F0 Q D rest) : rest = l.drop D.length → ∃ D', (∀ j x, nth D j = some x → nth D' j = some x) ∧ D'.length = n ∧ (∀ i o x, D.length ≤ i → l[i]? = some o → nth D' i = some x → ∃ D0, (∀ j x, nth D0 j = some x → nth D' j = some x) ∧ OpOk P ro N l E0 b F D0 o x) ∧
    ∀ gs, Ent (newF gs 0 D' ++ F) F0 ∧ SD P fl ro N F0 l n (l.drop n) Q (knOf l E0 (gv D' gs) (List.range n)) ds b (newF gs 0 D' ++ F) := by
  induction h with
  | @done D rest h0 h =>
    intro hr
    have h0 := Nat.eq_of_beq_eq_true h0
    refine ⟨D, fun _ _ h => h, h0, fun i o x hi ho hx => ?_, by rw [← h0, ← hr]; rw [h0]; exact h⟩
    rw [nth_eq] at hx
    have := (List.getElem?_eq_some_iff.1 hx).1; omega
  | @step D rest o x h1 h ih =>
    intro hr
    have hlen : (D ++ [x]).length = D.length + 1 := by simp
    have hr' : rest = l.drop (D ++ [x]).length := by
      rw [hlen]
      have := congrArg List.tail hr
      simpa [List.tail_drop] using this
    obtain ⟨D', k1, k2, k3, k4⟩ := ih hr'
    refine ⟨D', fun j y hy => k1 j y (nth_app hy), k2, fun i o' y hi ho hy => ?_, k4⟩
    by_cases he : i = D.length
    · subst he
      have : l[D.length]? = some o := by
        have := congrArg (fun z => z[0]?) hr
        simpa using this.symm
      rw [this] at ho; cases ho
      have hx : nth D' D.length = some x := k1 _ _ (by rw [nth_eq]; simp)
      rw [hx] at hy; cases hy
      exact ⟨D, fun j y hy => k1 j y (nth_app hy), h1⟩
    · exact k3 i o' y (by rw [hlen]; omega) ho hy
theorem sat_news {w : World} {gs : Nat → Nat} (H : Sat b F w) {m : Nat} : ∀ {w' : World}, Ext w w' → ∀ (D : List FD) (j0 : Nat), (∀ j t zs, nth D j = some (.new t zs) → Blk w' (gs (j0 + j)) t zs ∧ w.heap.size ≤ gs (j0 + j)) → (∀ i j t zs t' zs', nth D i = some (.new t zs) → nth D j = some (.new t' zs') → i ≠ j → gs (j0 + i) ≠ gs (j0 + j)) → m = 0 →
    ∃ Hs : Nat → PH, (∀ i, le (Hs i) (ph w')) ∧ (∀ i j, i ≠ j → apt (Hs i) (Hs j)) ∧ (∀ i A, nth (newF gs j0 D) i = some A → A (Hs i)) ∧ ∀ i k, Hs i k ≠ none → ∃ j t zs, nth D j = some (.new t zs) ∧ k = gs (j0 + j) := by
  intro w' hx D
  induction D with
  | nil => intro j0 _ _ _; exact ⟨fun _ _ => none, fun _ _ _ e => (by cases e), fun _ _ _ _ => .inl rfl, fun i A e => (by simp [newF, nth] at e), fun _ _ h => absurd rfl h⟩
  | cons x D ih =>
    intro j0 h1 h2 hm
    have e0 : ∀ j, j0 + (j + 1) = j0 + 1 + j := fun j => by omega
    obtain ⟨Hs, a, b', c, d⟩ := ih (j0 + 1) (fun j t zs h => by have := h1 (j + 1) t zs (by simpa [nth] using h); rwa [e0] at this) (fun i j t zs t' zs' hi hj hij => by
      have := h2 (i + 1) (j + 1) t zs t' zs' (by simpa [nth] using hi) (by simpa [nth] using hj) (by omega); rwa [e0 i, e0 j] at this) hm
    cases x with
    | val v => exact ⟨Hs, a, b', c, fun i k h => by obtain ⟨j, t, zs, q1, q2⟩ := d i k h; exact ⟨j + 1, t, zs, by simpa [nth] using q1, by rw [e0]; exact q2⟩⟩
    | new t zs =>
      have hB := (h1 0 t zs rfl).1
      refine ⟨fun i => match i with | 0 => one (gs j0) (.cells zs.toArray t (0, 0)) | i + 1 => Hs i, fun i => ?_, fun i j hij => ?_, fun i A hA => ?_, fun i k hk => ?_⟩
      · cases i with
        | zero => exact one_le (h := ph w') hB
        | succ i => exact a i
      · have key : ∀ i, apt (one (gs j0) (.cells zs.toArray t (0, 0))) (Hs i) := fun i k => by
          by_cases hk : Hs i k = none
          · exact .inr hk
          · left
            obtain ⟨j, t', zs', q1, q2⟩ := d i k hk
            have := h2 0 (j + 1) t zs t' zs' rfl (by simpa [nth] using q1) (by omega)
            rw [e0, Nat.add_zero] at this
            simp only [one]; rw [if_neg]; rw [q2]; exact fun e => this e.symm
        cases i with
        | zero => cases j with
          | zero => exact absurd rfl hij
          | succ j => exact key j
        | succ i => cases j with
          | zero => exact (key i).symm
          | succ j => exact b' i j (by omega)
      · cases i with
        | zero => simp only [newF, nth, Option.some.injEq] at hA; subst hA; exact one_at _ _
        | succ i => exact c i A (by simpa [newF, nth] using hA)
      · cases i with
        | zero => exact ⟨0, t, zs, rfl, by rw [one_ne hk]; rfl⟩
        | succ i => obtain ⟨j, t', zs', q1, q2⟩ := d i k hk; exact ⟨j + 1, t', zs', by simpa [nth] using q1, by rw [e0]; exact q2⟩
theorem sat_newF {w w' : World} {gs : Nat → Nat} (H : Sat b F w) (hx : Ext w w') (D : List FD) (h1 : ∀ j t zs, nth D j = some (.new t zs) → Blk w' (gs j) t zs ∧ w.heap.size ≤ gs j) (h2 : ∀ i j t zs t' zs', nth D i = some (.new t zs) → nth D j = some (.new t' zs') → i ≠ j → gs i ≠ gs j) :
    Sat b (newF gs 0 D ++ F) w' := by
  obtain ⟨Hs, a, b', c, d⟩ := sat_news (gs := gs) (m := 0) H hx D 0 (by simpa using h1) (by simpa using h2) rfl
  obtain ⟨K, ka, kb, kc⟩ := H.mem
  have hK : ∀ i, le (K i) (ph w') := fun i k o ho => by
    have := ka i k o ho
    exact (hx.keep k (ph_lt this) id).trans this
  have hap : ∀ i j, apt (Hs i) (K j) := fun i j k => by
    by_cases hk : Hs i k = none
    · exact .inl hk
    · right
      obtain ⟨q, t, zs, q1, q2⟩ := d i k hk
      have h3 := (h1 q t zs q1).2
      rw [Nat.zero_add] at q2
      cases hj : K j k with
      | none => rfl
      | some o => have := ph_lt (ka j k o hj); omega
  have H' := H.ext hx
  refine ⟨H'.os, H'.tape, H'.output, fun j => if j < (newF gs 0 D).length then Hs j else K (j - (newF gs 0 D).length), fun i => ?_, fun i j hij => ?_, fun i A hA => ?_⟩
  · dsimp only; split
    · exact a i
    · exact hK _
  · dsimp only; split <;> split
    · exact b' i j hij
    · exact hap i _
    · exact (hap j _).symm
    · exact kb _ _ (by omega)
  · rw [nth_append] at hA
    dsimp only; split at hA
    · rename_i h; rw [if_pos h]; exact c i A hA
    · rename_i h; rw [if_neg h]; exact kc _ A hA
theorem look_kn {vs : Nat → Value} (hd : ∀ j, j < n → look E0 (dstOf l j) = none ∧ ∀ k, k < n → k ≠ j → dstOf l k ≠ dstOf l j) : ∀ {M : List Nat}, (∀ j ∈ M, j < n) → (∀ j ∈ M, look (knOf l E0 vs M) (dstOf l j) = some (vs j)) ∧ ∀ i v, look E0 i = some v → look (knOf l E0 vs M) i = some v
  | [], _ => ⟨fun _ h => by simp at h, fun _ _ h => h⟩
  | j :: M, hM => by
    obtain ⟨i1, i2⟩ := look_kn (vs := vs) hd (M := M) fun k hk => hM k (by simp [hk])
    have hj := hM j (by simp)
    refine ⟨fun k hk => ?_, fun i v hv => ?_⟩
    · simp only [knOf, look]
      by_cases he : dstOf l j = dstOf l k
      · have hkj : k = j := by
          by_cases h : k = j
          · exact h
          · exact absurd he.symm ((hd j hj).2 k (hM k hk) h)
        subst hkj
        simp
      · have hk' : k ∈ M := by
          rcases List.mem_cons.1 hk with rfl | h
          · exact absurd rfl he
          · exact h
        have hb : Nat.beq (dstOf l j) (dstOf l k) = false := by
          cases h : Nat.beq (dstOf l j) (dstOf l k) with
          | true => exact absurd (Nat.eq_of_beq_eq_true h) he
          | false => rfl
        rw [hb]; exact i1 k hk'
    · simp only [knOf, look]
      have hne : dstOf l j ≠ i := fun h => by rw [← h, (hd j hj).1] at hv; cases hv
      have hb : Nat.beq (dstOf l j) i = false := by
        cases h : Nat.beq (dstOf l j) i with
        | true => exact absurd (Nat.eq_of_beq_eq_true h) hne
        | false => rfl
      rw [hb]; exact i2 i v hv
theorem look_inv {vs : Nat → Value} : ∀ {L : List Nat} {i : Nat} {v : Value}, look (knOf l E0 vs L) i = some v → (∃ j ∈ L, dstOf l j = i ∧ vs j = v) ∨ look E0 i = some v
  | [], _, _, h => .inr h
  | j :: L, i, v, h => by
    simp only [knOf, look] at h
    split at h
    · rename_i hb
      cases h
      exact .inl ⟨j, by simp, Nat.eq_of_beq_eq_true hb, rfl⟩
    · rcases look_inv h with ⟨k, h1, h2⟩ | h1
      · exact .inl ⟨k, by simp [h1], h2⟩
      · exact .inr h1
/-! ## Steps of the first part -/
variable {D : List FD} {d : Nat} {op : Op} {ty : TypeId} {pos : String} {aft : Array Edge} {g : Option (Nat × Bool)} {v : Value}
abbrev env (l : List Oper) (E0 : List (Nat × Value)) (D : List FD) (o : Oper) (vs : Nat → Value) : List (Nat × Value) := knOf l E0 (vv D vs) (dirs o)
/-- What only tells a value, wherever it stands. -/
theorem SC.pure {f : FuncId} {args : List Value} {w : World} (h : SC P f args w [Is w] (fun u F' => u = v ∧ F' = [Is w])) : Calls P f args.toArray w fun e w' => e = .returned v ∧ Ext w w' :=
  (h w (Sat.start w)).mono fun _ _ ⟨_, _, h1, ⟨h2, h3⟩, h4⟩ => by subst h2; subst h3; exact ⟨h1, h4.is (k := 0) rfl⟩
end
end Go.Eng
/- The engine, part twenty-seven: as part thirteen, where some of the first operations only tell values and need not have run before the second part begins. Conditions: as part seven. -/
namespace Go.Eng
open Go Go.RowKit

section
variable {P : Program} {ro : Option Nat} {l : List Oper} {Q : Exit → Act → World → Prop} {N : Nat} {ds : List Deferred} {E0 : List (Nat × Value)} {fl : Oper → Bool}

/-- As okExt; C: those of the first n that only tell values. -/
def okExtC (fl : Oper → Bool) (n N : Nat) (C : List Nat) (E0 : List (Nat × Value)) (l : List Oper) : Bool :=
  okBack l && (((List.range n).all fun i => match l[i]? with
    | none => false
    | some o => o.guard.isNone && match o.dst with
      | none => false
      | some d => Nat.blt d N && (look E0 d).isNone && (List.range n).all fun j => Nat.beq j i || !Nat.beq (dstOf l j) d) &&
  ((List.range l.length).all fun i => match l[i]? with
    | none => true
    | some o => (Nat.blt i n && !C.contains i) || (List.range i).all fun j => match l[j]? with
        | none => true
        | some p => (ancs l i).contains j || ((Nat.ble n j || C.contains j) && (p.apart l.toArray o && o.apart l.toArray p && (fl o || fl p))) || (Nat.blt i n && !C.contains j)) &&
  (C.all fun c => Nat.blt c n && (match l[c]? with | some o => fl o | none => false)))
theorem okExtC_op {n : Nat} {C : List Nat} (h : okExtC fl n N C E0 l = true) {i : Nat} (hi : i < n) : ∃ o d, l[i]? = some o ∧ o.guard = none ∧ o.dst = some d ∧ d < N ∧ look E0 d = none ∧ ∀ j, j < n → j ≠ i → dstOf l j ≠ d := by
  simp only [okExtC, Bool.and_eq_true] at h
  have := List.all_eq_true.1 h.2.1.1 i (List.mem_range.2 hi)
  split at this
  · cases this
  · rename_i o ho
    simp only [Bool.and_eq_true] at this
    obtain ⟨h1, h2⟩ := this
    split at h2
    · cases h2
    · rename_i d hd
      simp only [Bool.and_eq_true] at h2
      refine ⟨o, d, ho, by simpa using h1, hd, Nat.le_of_ble_eq_true h2.1.1, by simpa using h2.1.2, fun j hj hji hjd => ?_⟩
      have := List.all_eq_true.1 h2.2 j (List.mem_range.2 hj)
      simp only [Bool.or_eq_true, Bool.not_eq_true'] at this
      rcases this with h3 | h3
      · exact hji (Nat.eq_of_beq_eq_true h3)
      · rw [hjd, Nat.beq_refl] at h3; cases h3
theorem okExtC_pair {n : Nat} {C : List Nat} (h : okExtC fl n N C E0 l = true) (i j : Nat) (o p : Oper) (ho : l[i]? = some o) (hp : l[j]? = some p) (hin : n ≤ i ∨ i ∈ C) (hji : j < i) :
    j ∈ ancs l i ∨ ((n ≤ j ∨ j ∈ C) ∧ Apart l p o ∧ (fl o = true ∨ fl p = true)) ∨ (i < n ∧ j ∉ C) := by
  simp only [okExtC, Bool.and_eq_true] at h
  have hlt : i < l.length := (List.getElem?_eq_some_iff.1 ho).1
  have := List.all_eq_true.1 h.2.1.2 i (List.mem_range.2 hlt)
  simp only [ho, Bool.or_eq_true, Bool.and_eq_true, Bool.not_eq_true'] at this
  rcases this with ⟨h1, h2⟩ | h1
  · have := Nat.le_of_ble_eq_true h1
    rcases hin with h | h
    · omega
    · rw [List.contains_iff_mem.2 h] at h2; cases h2
  · have := List.all_eq_true.1 h1 j (List.mem_range.2 hji)
    simp only [hp, Bool.or_eq_true, Bool.and_eq_true, Bool.not_eq_true'] at this
    rcases this with (h1 | ⟨h0, ⟨h1, h2⟩, h3⟩) | ⟨h4, h5⟩
    · exact .inl (List.contains_iff_mem.1 h1)
    · exact .inr (.inl ⟨h0.imp Nat.le_of_ble_eq_true List.contains_iff_mem.1, ⟨h1, h2⟩, h3⟩)
    · exact .inr (.inr ⟨Nat.le_of_ble_eq_true h4, fun hc => by rw [List.contains_iff_mem.2 hc] at h5; cases h5⟩)
theorem okExtC_c {n : Nat} {C : List Nat} (h : okExtC fl n N C E0 l = true) {c : Nat} (hc : c ∈ C) : c < n ∧ (∀ o, l[c]? = some o → fl o = true) := by
  simp only [okExtC, Bool.and_eq_true] at h
  have := List.all_eq_true.1 h.2.2 c hc
  simp only [Bool.and_eq_true] at this
  obtain ⟨h1, h2⟩ := this
  exact ⟨Nat.le_of_ble_eq_true h1, fun o ho => by rw [ho] at h2; exact h2⟩

/-- Those that have not run yet run now. -/
theorem tx_pend {w0 : World} {n : Nat} {C : List Nat} (hok : okExtC fl n N C E0 l = true) (hback : ∀ i, ∀ j ∈ ancs l i, i < l.length → j < i) (hnl : n ≤ l.length) {S2 : World → Prop} (φ : Nat → (Nat → Value) → World → Prop) (own : Nat → Value → Option Nat)
    (hst : ∀ j vs w w', φ j vs w → Ext w w' → φ j vs w') (hloc : ∀ j vs vs' w, φ j vs w → (∀ k, k = j ∨ k ∈ ancs l j → vs k = vs' k) → φ j vs' w)
    (hC : ∀ c o, c ∈ C → l[c]? = some o → ∀ vs a w', Ext w0 w' → Kn N (knOf l E0 vs (ancs l c)) a → (∀ j ∈ ancs l c, φ j vs w') → ∃ v, (∀ W, (execOp a.eval o).run P W = .ok (.value v) W) ∧ φ c (upv vs c v) w' ∧ own c v = none) {w : World}
    (hend : ∀ vs a, ExtSt w0 N n l E0 ds φ own (fun _ => True) vs a w → Tx P fl ro l S2 Q (List.range' n (l.length - n)) a w) :
    ∀ (U : List Nat) (L : Nat → Prop) (vs : Nat → Value) (a : Act), (∀ c ∈ U, c ∈ C ∧ ¬ L c) → U.Pairwise (· < ·) → (∀ j, j < n → L j ∨ j ∈ U) → (∀ j, j < n → L j → ∀ k ∈ ancs l j, L k) → ExtSt w0 N n l E0 ds φ own L vs a w → Tx P fl ro l S2 Q (U ++ List.range' n (l.length - n)) a w
  | [], L, vs, a, _, _, hall, _, h => hend vs a ⟨h.ext, h.kn, h.dfs, fun i hi _ => h.slot i hi ((hall i hi).resolve_right (by simp)), fun i hi _ => h.fact i hi ((hall i hi).resolve_right (by simp)), fun i hi _ => h.low i hi ((hall i hi).resolve_right (by simp)), fun i j hi hj _ _ => h.apart i j hi hj ((hall i hi).resolve_right (by simp)) ((hall j hj).resolve_right (by simp))⟩
  | c :: U, L, vs, a, hU, hnd, hall, hcl, h => by
    obtain ⟨hcC, hcL⟩ := hU c (by simp)
    obtain ⟨hcn, hcf⟩ := okExtC_c hok hcC
    obtain ⟨o, d, ho, hg, hd, hdN, hE0, hne⟩ := okExtC_op hok hcn
    have hndc := List.pairwise_cons.1 hnd
    have hanc : ∀ j ∈ ancs l c, j < n ∧ L j := fun j hj => by
      have hjn : j < n := by have := hback c j hj (by omega); omega
      refine ⟨hjn, (hall j hjn).resolve_right fun hm => ?_⟩
      have hjc := hback c j hj (by omega)
      rcases List.mem_cons.1 hm with rfl | hm
      · omega
      · have := hndc.1 j hm; omega
    obtain ⟨v, h1, h2, h3⟩ := hC c o hcC ho vs a w h.ext (h.kn_of _ hanc) (fun j hj => h.fact j (hanc j hj).1 (hanc j hj).2)
    have hwant : Region.wanted o (yielded l.toArray a.tmps) = true := by simp [Region.wanted, hg]
    refine ⟨o, ho, fun _ => .inl ⟨hcf o ho, v, fun W _ => h1 W, ?_⟩, fun hc => by rw [hwant] at hc; cases hc⟩
    rw [hd]
    have hs := h.step (L' := fun j => j = c ∨ L j) hcn ho hd hdN hE0 hne hcL (fun j _ hj => hj) (fun j hj hLj hia => hcL (hcl j hj hLj c hia)) hst hloc (Fr.refl _ _) h2 (fun g hgo => by rw [h3] at hgo; cases hgo)
    exact tx_pend hok hback hnl φ own hst hloc hC hend U _ _ _ (fun k hk => ⟨(hU k (by simp [hk])).1, fun hk' => by
        rcases hk' with rfl | hk'
        · exact Nat.lt_irrefl _ (hndc.1 _ hk)
        · exact (hU k (by simp [hk])).2 hk'⟩) hndc.2 (fun j hj => by
        rcases hall j hj with h | h
        · exact .inl (.inr h)
        · rcases List.mem_cons.1 h with rfl | h
          · exact .inl (.inl rfl)
          · exact .inr h) (fun j hj hLj k hk => by
        rcases hLj with rfl | hLj
        · exact .inr (hanc k hk).2
        · exact .inr (hcl j hj hLj k hk)) hs

theorem region_extC {n : Nat} {C : List Nat} (hn : n ≤ l.length) (hok : okExtC fl n N C E0 l = true) (hCs : C.Pairwise (· < ·)) (hm : P.follows .mixedOrders = true) {S2 : World → Prop} {id : Nat} {a : Act} {w : World} (hk : Kn N E0 a) (hds : a.defers = ds)
    (φ : Nat → (Nat → Value) → World → Prop) (own : Nat → Value → Option Nat)
    (hst : ∀ j vs w w', φ j vs w → Ext w w' → φ j vs w') (hloc : ∀ j vs vs' w, φ j vs w → (∀ k, k = j ∨ k ∈ ancs l j → vs k = vs' k) → φ j vs' w)
    (hop : ∀ i o, i < n → l[i]? = some o → ∀ vs a w', Ext w w' → Kn N (knOf l E0 vs (ancs l i)) a → (∀ j ∈ ancs l i, φ j vs w') →
      Eff P ro o a w' fun v w'' => Ext w' w'' ∧ φ i (upv vs i v) w'' ∧ ∀ g, own i v = some g → w'.heap.size ≤ g ∧ g < w''.heap.size)
    (hC : ∀ c o, c ∈ C → l[c]? = some o → ∀ vs a w', Ext w w' → Kn N (knOf l E0 vs (ancs l c)) a → (∀ j ∈ ancs l c, φ j vs w') → ∃ v, (∀ W, (execOp a.eval o).run P W = .ok (.value v) W) ∧ φ c (upv vs c v) w' ∧ own c v = none)
    (hS : ∀ vs a w', ExtSt w N n l E0 ds φ own (fun j => j ∉ C) vs a w' → S2 w')
    (hend : ∀ vs a w', ExtSt w N n l E0 ds φ own (fun _ => True) vs a w' → Tx P fl ro l S2 Q (List.range' n (l.length - n)) a w') :
    (Code.region id l.toArray true).wpIn (FR ro) 0 P Q a w := by
  have hb : okBack l = true := by simp only [okExtC, Bool.and_eq_true] at hok; exact hok.1
  have hns := okBack_ns hb
  have hback : ∀ i, ∀ j ∈ ancs l i, i < l.length → j < i := by
    intro i j hj hi
    cases hlt : decide (j < i) with
    | true => exact of_decide_eq_true hlt
    | false =>
      exfalso
      have hge : i ≤ j := by have := of_decide_eq_false hlt; omega
      let lst : Array Bool := ((List.range l.length).map fun k => decide (k < i)).toArray
      have hget : ∀ k, lst.getD k false = true ↔ k < l.length ∧ k < i := by
        intro k
        simp only [lst, Array.getD_eq_getD_getElem?, List.getElem?_toArray, List.getElem?_map]
        by_cases hk : k < l.length
        · simp [List.getElem?_range hk, hk]
        · simp [List.getElem?_eq_none (l := List.range l.length) (by simpa using hk), hk]
      have hcl : Closed l lst := by
        intro k o hk ho e he hbd
        have := okBack_back hb k o ho e he hbd
        have h2 := (hget k).1 hk
        exact (hget _).2 ⟨by omega, by omega⟩
      have := ancT_sound hcl l [] [] rfl rfl (fun i o h => by simp at h) i l[i] (List.getElem?_eq_getElem hi) (fun e he hbd => (hget _).2 (by
        have := okBack_back hb i l[i] (List.getElem?_eq_getElem hi) e he hbd; omega)) j hj
      have := (hget j).1 this
      omega
  have hCn : ∀ c ∈ C, c < n := fun c hc => (okExtC_c hok hc).1
  have pw2 : (C ++ List.range' n (l.length - n)).Pairwise (· < ·) := List.pairwise_append.2 ⟨hCs, List.pairwise_lt_range' (s := n) (n := l.length - n), fun x hx y hy => by
    have := hCn x hx
    rw [List.mem_range'_1] at hy; omega⟩
  have nd2 : (C ++ List.range' n (l.length - n)).Nodup := pw2.imp fun h => Nat.ne_of_lt h
  have hmemR : ∀ i, i < l.length → (n ≤ i ∨ i ∈ C) → i ∈ C ++ List.range' n (l.length - n) := fun i hi h => by
    rw [List.mem_append, List.mem_range'_1]
    rcases h with h | h
    · exact .inr ⟨h, by omega⟩
    · exact .inl h
  let I : Array Bool → Act → World → Prop := fun listed a w' =>
    ((∀ i, n ≤ i → i < l.length → listed.getD i false = false) ∧ ∃ vs, ExtSt w N n l E0 ds φ own (fun i => listed.getD i false = true) vs a w') ∨
    ((∀ j, j < n → j ∉ C → listed.getD j false = true) ∧ S2 w' ∧ Tx P fl ro l S2 Q (rest (C ++ List.range' n (l.length - n)) listed) a w')
  have conv : ∀ (listed : Array Bool) (a : Act) (w' : World), listed.size = l.length → Closed l listed → I listed a w' → (∃ j, j < n ∧ j ∉ C ∧ listed.getD j false = false ∧ (∀ i, n ≤ i → i < l.length → listed.getD i false = false) ∧ ∃ vs, ExtSt w N n l E0 ds φ own (fun i => listed.getD i false = true) vs a w') ∨
      ((∀ j, j < n → j ∉ C → listed.getD j false = true) ∧ S2 w' ∧ Tx P fl ro l S2 Q (rest (C ++ List.range' n (l.length - n)) listed) a w') := by
    rintro listed a w' hsz hclo (⟨h1, vs, h2⟩ | h)
    · by_cases hall : ∀ j, j < n → j ∉ C → listed.getD j false = true
      · right
        refine ⟨hall, hS vs a w' ⟨h2.ext, h2.kn, h2.dfs, fun i hi hc => h2.slot i hi (hall i hi hc), fun i hi hc => h2.fact i hi (hall i hi hc), fun i hi hc => h2.low i hi (hall i hi hc), fun i j hi hj hc hc' => h2.apart i j hi hj (hall i hi hc) (hall j hj hc')⟩, ?_⟩
        have e1 : rest (C ++ List.range' n (l.length - n)) listed = (C.filter fun i => !listed.getD i true) ++ List.range' n (l.length - n) := by
          unfold rest
          rw [List.filter_append]
          congr 1
          rw [List.filter_eq_self]
          intro i hi
          rw [List.mem_range'_1] at hi
          have := h1 i hi.1 (by omega)
          rw [← getD_both (by omega)] at this
          simp [this]
        rw [e1]
        refine tx_pend hok hback hn φ own hst hloc hC (fun vs a h => hend vs a w' h) (C.filter fun i => !listed.getD i true) (fun i => listed.getD i false = true) vs a (fun c hc => ?_) (hCs.filter _) (fun j hj => ?_) (fun j hj hLj k hk => ?_) h2
        · obtain ⟨hc1, hc2⟩ := List.mem_filter.1 hc
          refine ⟨hc1, fun h => ?_⟩
          have := hCn c hc1
          rw [← getD_both (by omega)] at h
          rw [h] at hc2; simp at hc2
        · by_cases hjl : listed.getD j false = true
          · exact .inl hjl
          · by_cases hjc : j ∈ C
            · right
              refine List.mem_filter.2 ⟨hjc, ?_⟩
              rw [getD_both (by omega)]
              simpa using hjl
            · exact absurd (hall j hj hjc) hjl
        · have hjl : j < l.length := by omega
          exact ancT_sound hclo l [] [] rfl rfl (fun i o h => by simp at h) j l[j] (List.getElem?_eq_getElem hjl) (fun e he hbd => hclo j l[j] hLj (List.getElem?_eq_getElem hjl) e he hbd) k hk
      · left
        obtain ⟨j, hj⟩ := Classical.not_forall.1 hall
        obtain ⟨hj1, hj2⟩ := Classical.not_imp.1 hj
        obtain ⟨hj2, hj3⟩ := Classical.not_imp.1 hj2
        exact ⟨j, hj1, hj2, by simpa using hj3, h1, vs, h2⟩
    · exact .inr h
  refine region_inv hb hm I ?_ ?_ ?_
  · left
    have hfa : ∀ i, ¬ ((Array.replicate l.length false).getD i false = true) := by
      intro i h
      rw [Array.getD_eq_getD_getElem?, Array.getElem?_replicate] at h
      split at h <;> cases h
    exact ⟨fun i _ hi => by simp [hi], fun _ => undef, Fr.drew _, hk, hds, fun i _ h => absurd h (hfa i), fun i _ h => absurd h (hfa i), fun i _ h => absurd h (hfa i), fun i j _ _ h => absurd h (hfa i)⟩
  · intro listed a w' i o hsz hcl hI ho hf hdeps
    have hlt : i < l.length := (List.getElem?_eq_some_iff.1 ho).1
    have hancl : ∀ r ∈ ancs l i, listed.getD r false = true := fun r hr => ancT_sound hcl l [] [] rfl rfl (fun i o h => by simp at h) i o ho hdeps r hr
    rcases conv listed a w' hsz hcl hI with ⟨j0, hj0, hj0C, hun0, h1, vs, h2⟩ | ⟨h1, h2, h3⟩
    · have hin : i < n := by
        rcases Nat.lt_or_ge i n with h | h
        · exact h
        · rcases okExtC_pair hok i j0 o l[j0] ho (List.getElem?_eq_getElem (by omega)) (.inl h) (by omega) with hm | ⟨hm, _⟩ | ⟨hm, _⟩
          · rw [hancl j0 hm] at hun0; cases hun0
          · rcases hm with hm | hm
            · omega
            · exact absurd hm hj0C
          · omega
      obtain ⟨o', d, ho', hg, hd, hdN, hE0, hne⟩ := okExtC_op hok hin
      rw [ho] at ho'; cases ho'
      have hwant : Region.wanted o (yielded l.toArray a.tmps) = true := by simp [Region.wanted, hg]
      have hancn : ∀ j ∈ ancs l i, j < n ∧ listed.getD j false = true := fun j hj => ⟨by have := hback i j hj hlt; omega, hancl j hj⟩
      refine ⟨fun _ => ?_, fun hc => by rw [hwant] at hc; cases hc⟩
      refine (hop i o hin ho vs a w' h2.ext (h2.kn_of _ hancn) (fun j hj => h2.fact j (hancn j hj).1 (hancn j hj).2)).mono ?_
      rintro v w'' ⟨he, hfi, hown⟩
      left
      refine ⟨fun k hk hkl => by rw [getD_set_ne false (by omega)]; exact h1 k hk hkl, upv vs i v, ?_⟩
      rw [hd]
      refine h2.step hin ho hd hdN hE0 hne (by simp [hf]) (fun j hj hLj => ?_) (fun j hj hLj hia => ?_) hst hloc he hfi hown
      · by_cases hji : j = i
        · exact .inl hji
        · right
          rwa [getD_set_ne false (fun e => hji e.symm)] at hLj
      · have hjl : j < l.length := by omega
        have := ancT_sound hcl l [] [] rfl rfl (fun i o h => by simp at h) j l[j] (List.getElem?_eq_getElem hjl) (fun e he hbd => hcl j l[j] hLj (List.getElem?_eq_getElem hjl) e he hbd) i hia
        rw [hf] at this; cases this
    · have hin : n ≤ i ∨ i ∈ C := by
        rcases Nat.lt_or_ge i n with h | h
        · by_cases hc : i ∈ C
          · exact .inr hc
          · rw [h1 i h hc] at hf; cases hf
        · exact .inl h
      have hft : listed.getD i true = false := by rw [getD_both (by omega)]; exact hf
      obtain ⟨g1, g2⟩ := step_of_Tx (fl := fl) hns nd2 pw2 (hmemR i hlt hin) ho (by omega) hft (fun r hr hu hrR p hp => by
        have hrl : r < l.length := (List.getElem?_eq_some_iff.1 hp).1
        rcases okExtC_pair hok i r o p ho hp hin hr with hm | ⟨_, hm⟩ | ⟨hm, hm2⟩
        · rw [getD_both (by omega), hancl r hm] at hu; cases hu
        · exact hm
        · rw [List.mem_append, List.mem_range'_1] at hrR
          rcases hrR with h | h
          · exact absurd h hm2
          · omega) h2 h3
      have keep : ∀ j, j < n → j ∉ C → (listed.setIfInBounds i true).getD j false = true := fun j hj hjc => by
        have hji : j ≠ i := by
          rintro rfl
          rcases hin with h | h
          · omega
          · exact hjc h
        rw [getD_set_ne false (Ne.symm hji)]; exact h1 j hj hjc
      exact ⟨fun hw => (g1 hw).mono fun v w' ⟨hS', ht⟩ => .inr ⟨keep, hS', ht⟩, fun hw => .inr ⟨keep, h2, g2 hw⟩⟩
  · intro listed a w' hsz hI hall
    have hcl : Closed l listed := fun k o _ ho e he hbd => hall _ (by have := okBack_back hb k o ho e he hbd; have := (List.getElem?_eq_some_iff.1 ho).1; omega)
    rcases conv listed a w' hsz hcl hI with ⟨j0, hj0, _, hun0, _⟩ | ⟨h1, h2, h3⟩
    · have := hall j0 (by omega)
      rw [hun0] at this
      cases this
    · have : rest (C ++ List.range' n (l.length - n)) listed = [] := by
        unfold rest
        rw [List.filter_eq_nil_iff]
        intro k hk
        have hkl : k < l.length := by
          rw [List.mem_append, List.mem_range'_1] at hk
          rcases hk with h | h
          · have := hCn k h; omega
          · omega
        rw [getD_both (by omega), hall k hkl]
        simp
      rw [this] at h3
      exact h3

end
end Go.Eng
/- The engine, part twenty-eight: unordered first parts, walked. Conditions: as part seven. -/
namespace Go.Eng
open Go Go.RowKit

section
variable {P : Program} {tt : Nat → Option TI} [TT P tt] {ro : Option Nat} {N n : Nat} {C : List Nat} {l rest : List Oper} {Q : Exit → Act → World → Prop} {E E0 : List (Nat × Value)} {ds : List Deferred} {b : World} {F F0 : List SP} {fl : Oper → Bool}

def PurOk (P : Program) (N : Nat) (l : List Oper) (E0 : List (Nat × Value)) (D : List FD) (o : Oper) (v : Value) : Prop := ∀ vs a, Kn N (knOf l E0 (vv D vs) (dirs o)) a → ∀ W, (execOp a.eval o).run P W = .ok (.value v) W
inductive FC (P : Program) (fl : Oper → Bool) (ro : Option Nat) (N n : Nat) (C : List Nat) (l : List Oper) (E0 : List (Nat × Value)) (ds : List Deferred) (b : World) (F F0 : List SP) (Q : Exit → Act → World → Prop) : List FD → List Oper → Prop
  | done {D : List FD} {rest : List Oper} (h0 : Nat.beq D.length n = true) (h : ∀ gs, Ent (newF gs 0 D ++ F) F0 ∧ SD P fl ro N F0 l n rest Q (knOf l E0 (gv D gs) (List.range n)) ds b (newF gs 0 D ++ F)) : FC P fl ro N n C l E0 ds b F F0 Q D rest
  | step {D : List FD} {rest : List Oper} {o : Oper} {x : FD} (hc : C.contains D.length = false) (h1 : OpOk P ro N l E0 b F D o x) (h : FC P fl ro N n C l E0 ds b F F0 Q (D ++ [x]) rest) : FC P fl ro N n C l E0 ds b F F0 Q D (o :: rest)
  | pstep {D : List FD} {rest : List Oper} {o : Oper} {v : Value} (h1 : PurOk P N l E0 D o v) (h : FC P fl ro N n C l E0 ds b F F0 Q (D ++ [.val v]) rest) : FC P fl ro N n C l E0 ds b F F0 Q D (o :: rest)
theorem PurOk.op {D : List FD} {o : Oper} {v : Value} (h : PurOk P N l E0 D o v) : OpOk P ro N l E0 b F D o (.val v) := fun vs a w' _ hk => by
  unfold Eff
  rw [h vs a hk w']
  exact ⟨Fr.refl _ _, rfl⟩
theorem FC.facts {D : List FD} {rest : List Oper} (h : FC P fl ro N n C l E0 ds b F F0 Q D rest) : rest = l.drop D.length → ∃ D', (∀ j x, nth D j = some x → nth D' j = some x) ∧ D'.length = n ∧
    (∀ i o x, D.length ≤ i → l[i]? = some o → nth D' i = some x → ∃ D0, (∀ j x, nth D0 j = some x → nth D' j = some x) ∧ OpOk P ro N l E0 b F D0 o x ∧ (i ∈ C → ∃ v, x = .val v ∧ PurOk P N l E0 D0 o v)) ∧
    ∀ gs, Ent (newF gs 0 D' ++ F) F0 ∧ SD P fl ro N F0 l n (l.drop n) Q (knOf l E0 (gv D' gs) (List.range n)) ds b (newF gs 0 D' ++ F) := by
  have hstep : ∀ {D : List FD} {rest : List Oper} {o : Oper} {x : FD}, OpOk P ro N l E0 b F D o x → (D.length ∈ C → ∃ v, x = .val v ∧ PurOk P N l E0 D o v) →
      (rest = l.drop (D ++ [x]).length → ∃ D', (∀ j y, nth (D ++ [x]) j = some y → nth D' j = some y) ∧ D'.length = n ∧
        (∀ i o x', (D ++ [x]).length ≤ i → l[i]? = some o → nth D' i = some x' → ∃ D0, (∀ j x, nth D0 j = some x → nth D' j = some x) ∧ OpOk P ro N l E0 b F D0 o x' ∧ (i ∈ C → ∃ v, x' = .val v ∧ PurOk P N l E0 D0 o v)) ∧
        ∀ gs, Ent (newF gs 0 D' ++ F) F0 ∧ SD P fl ro N F0 l n (l.drop n) Q (knOf l E0 (gv D' gs) (List.range n)) ds b (newF gs 0 D' ++ F)) →
      o :: rest = l.drop D.length → ∃ D', (∀ j y, nth D j = some y → nth D' j = some y) ∧ D'.length = n ∧
        (∀ i o x', D.length ≤ i → l[i]? = some o → nth D' i = some x' → ∃ D0, (∀ j x, nth D0 j = some x → nth D' j = some x) ∧ OpOk P ro N l E0 b F D0 o x' ∧ (i ∈ C → ∃ v, x' = .val v ∧ PurOk P N l E0 D0 o v)) ∧
        ∀ gs, Ent (newF gs 0 D' ++ F) F0 ∧ SD P fl ro N F0 l n (l.drop n) Q (knOf l E0 (gv D' gs) (List.range n)) ds b (newF gs 0 D' ++ F) := by
    intro D rest o x h1 hp ih hr
    have hlen : (D ++ [x]).length = D.length + 1 := by simp
    have hr' : rest = l.drop (D ++ [x]).length := by
      rw [hlen]
      have := congrArg List.tail hr
      simpa [List.tail_drop] using this
    obtain ⟨D', k1, k2, k3, k4⟩ := ih hr'
    refine ⟨D', fun j y hy => k1 j y (nth_app hy), k2, fun i o' y hi ho hy => ?_, k4⟩
    by_cases he : i = D.length
    · subst he
      have : l[D.length]? = some o := by
        have := congrArg (fun z => z[0]?) hr
        simpa using this.symm
      rw [this] at ho; cases ho
      have hx : nth D' D.length = some x := k1 _ _ (by rw [nth_eq]; simp)
      rw [hx] at hy; cases hy
      exact ⟨D, fun j y hy => k1 j y (nth_app hy), h1, hp⟩
    · exact k3 i o' y (by rw [hlen]; omega) ho hy
  induction h with
  | @done D rest h0 h =>
    intro hr
    have h0 := Nat.eq_of_beq_eq_true h0
    refine ⟨D, fun _ _ h => h, h0, fun i o x hi ho hx => ?_, by rw [← h0, ← hr]; rw [h0]; exact h⟩
    rw [nth_eq] at hx
    have := (List.getElem?_eq_some_iff.1 hx).1; omega
  | @step D rest o x hc h1 h ih => exact hstep h1 (fun hm => by rw [List.contains_iff_mem.2 hm] at hc; cases hc) ih
  | @pstep D rest o v h1 h ih => exact hstep h1.op (fun _ => ⟨v, rfl, h1⟩) ih

theorem sw_freeC (n : Nat) (C : List Nat) (F0 : List SP) [hm : Mixed P] {id : Nat} (E0 : List (Nat × Value)) (hsub : Sub E0 E) (hn : Nat.ble n l.length = true) (hok : okExtC fl n N C E0 l = true) (hdir : okDirs l n = true) (hCs : C.Pairwise (· < ·)) (h : FC P fl ro N n C l E0 ds b F F0 Q [] l) :
    SW P ro N (.region id l.toArray true) Q E ds b F := by
  constructor
  intro w H a hka hda
  obtain ⟨D, _, hlen, hf, hend⟩ := h.facts rfl
  have hds : ∀ j, j < n → look E0 (dstOf l j) = none ∧ ∀ k, k < n → k ≠ j → dstOf l k ≠ dstOf l j := fun j hj => by
    obtain ⟨o, d, h1, _, h2, _, h3, h4⟩ := okExtC_op hok hj
    have : dstOf l j = d := by simp [dstOf, h1, h2]
    rw [this]; exact ⟨h3, h4⟩
  have hx : ∀ i, i < n → ∃ x, nth D i = some x := fun i hi => ⟨D[i]'(by omega), by rw [nth_eq]; exact List.getElem?_eq_getElem _⟩
  have hkn : ∀ i o, i < n → l[i]? = some o → ∀ (D0 : List FD), (∀ j x, nth D0 j = some x → nth D j = some x) → ∀ vs a (w' : World), Kn N (knOf l E0 vs (ancs l i)) a → (∀ j ∈ ancs l i, fdF D j vs w') → Kn N (knOf l E0 (vv D0 vs) (dirs o)) a := by
    intro i o hi ho D0 hD0 vs a w' hk hφ
    have hdi := List.all_eq_true.1 hdir i (List.mem_range.2 hi)
    simp only [ho, Bool.and_eq_true] at hdi
    have hsubs : ∀ j ∈ dirs o, j ∈ ancs l i := fun j hj => List.contains_iff_mem.1 (List.all_eq_true.1 hdi.1 j hj)
    have hltn : ∀ j ∈ ancs l i, j < n := fun j hj => Nat.le_of_ble_eq_true (List.all_eq_true.1 hdi.2 j hj)
    have hk0 : Kn N (knOf l E0 vs (dirs o)) a := ⟨hk.1, fun k v hkv => hk.2 k v (by
      rcases look_inv hkv with ⟨j, h1, rfl, rfl⟩ | h1
      · exact (look_kn hds hltn).1 j (hsubs j h1)
      · exact (look_kn hds hltn).2 k v h1)⟩
    have hvv : knOf l E0 vs (dirs o) = knOf l E0 (vv D0 vs) (dirs o) := knOf_congr fun j hj => by
      have hφj := hφ j (hsubs j hj)
      cases hd0 : nth D0 j with
      | none => simp [vv, hd0]
      | some y =>
        have := hD0 j y hd0
        cases y with
        | val u => simp only [fdF, this] at hφj; simp [vv, hd0, hφj]
        | new t zs => simp [vv, hd0]
    rw [hvv] at hk0
    exact hk0
  have hCn : ∀ j, (∃ t zs, nth D j = some (.new t zs)) → j < n ∧ j ∉ C := fun j ⟨t, zs, hj⟩ => by
    have hjn : j < n := by rw [nth_eq] at hj; have := (List.getElem?_eq_some_iff.1 hj).1; omega
    refine ⟨hjn, fun hc => ?_⟩
    obtain ⟨o, d, ho, _⟩ := okExtC_op hok hjn
    obtain ⟨_, _, _, hp⟩ := hf j o _ (Nat.zero_le _) ho hj
    obtain ⟨v, hv, _⟩ := hp hc
    cases hv
  have hnews : ∀ {L : Nat → Prop} (vs : Nat → Value) (a' : Act) (w' : World), (∀ j, j ∉ C → L j) → ExtSt w N n l E0 ds (fdF D) (fdO D) L vs a' w' → Ext w w' →
      (∀ j t zs, nth D j = some (.new t zs) → vs j = .pointer (some ⟨(match vs j with | .pointer (some a) => a.block | _ => 0), 0, none⟩)) ∧ Sat b (newF (fun j => match vs j with | .pointer (some a) => a.block | _ => 0) 0 D ++ F) w' := by
    intro L vs a' w' hL hst hE
    have hnew : ∀ j t zs, nth D j = some (.new t zs) → j < n ∧ L j ∧ vs j = .pointer (some ⟨(match vs j with | .pointer (some a) => a.block | _ => 0), 0, none⟩) ∧ Blk w' (match vs j with | .pointer (some a) => a.block | _ => 0) t zs ∧ fdO D j (vs j) = some (match vs j with | .pointer (some a) => a.block | _ => 0) := fun j t zs hj => by
      obtain ⟨hjn, hjC⟩ := hCn j ⟨t, zs, hj⟩
      have h1 := hst.fact j hjn (hL j hjC)
      simp only [fdF, hj] at h1
      obtain ⟨g, h2, h3⟩ := h1
      refine ⟨hjn, hL j hjC, by rw [h2], by rw [h2]; exact h3, by simp [fdO, hj, h2]⟩
    refine ⟨fun j t zs hj => (hnew j t zs hj).2.2.1, ?_⟩
    refine sat_newF H hE D (fun j t zs hj => ⟨(hnew j t zs hj).2.2.2.1, (hst.low j (hnew j t zs hj).1 (hnew j t zs hj).2.1 _ (hnew j t zs hj).2.2.2.2).1⟩) (fun i j t zs t' zs' hi hj hij he =>
      hst.apart i j (hnew i t zs hi).1 (hnew j t' zs' hj).1 (hnew i t zs hi).2.1 (hnew j t' zs' hj).2.1 hij _ (hnew i t zs hi).2.2.2.2 (by rw [he]; exact (hnew j t' zs' hj).2.2.2.2))
  refine region_extC (fl := fl) (S2 := Sat b F0) (Nat.le_of_ble_eq_true hn) hok hCs hm.on (hka.sub hsub) hda (fdF D) (fdO D) ?_ ?_ ?_ ?_ ?_ ?_
  · intro j vs w1 w2 h hE
    unfold fdF at h ⊢
    split at h
    · exact h
    · obtain ⟨g, h1, h2⟩ := h; exact ⟨g, h1, h2.ext hE⟩
    · trivial
  · intro j vs vs' w1 h hv
    have e := hv j (.inl rfl)
    unfold fdF at h ⊢
    split at h
    · rw [← e]; exact h
    · obtain ⟨g, h1, h2⟩ := h; exact ⟨g, by rw [← e]; exact h1, h2⟩
    · trivial
  · intro i o hi ho vs a w' hE hk hφ
    obtain ⟨x, hxi⟩ := hx i hi
    obtain ⟨D0, hD0, hopk, _⟩ := hf i o x (Nat.zero_le _) ho hxi
    refine (hopk vs a w' (H.ext hE) (hkn i o hi ho D0 hD0 vs a w' hk hφ)).mono ?_
    rintro v w'' ⟨hE', hxv⟩
    refine ⟨hE', ?_, fun g hg => ?_⟩
    · unfold fdF
      rw [hxi]
      cases x with
      | val u => simp only [upv, if_pos]; exact hxv
      | new t zs => obtain ⟨g, h1, h2, _⟩ := hxv; exact ⟨g, by simp only [upv, if_pos]; exact h1, h2⟩
    · unfold fdO at hg
      rw [hxi] at hg
      cases x with
      | val u => cases hg
      | new t zs =>
        obtain ⟨g', h1, h2, h3⟩ := hxv
        subst h1
        simp only [Option.some.injEq] at hg
        subst hg
        exact ⟨h3, h2.lt⟩
  · intro c o hc ho vs a w' hE hk hφ
    have hcn := (okExtC_c hok hc).1
    obtain ⟨x, hxi⟩ := hx c hcn
    obtain ⟨D0, hD0, _, hp⟩ := hf c o x (Nat.zero_le _) ho hxi
    obtain ⟨v, rfl, hpu⟩ := hp hc
    refine ⟨v, hpu vs a (hkn c o hcn ho D0 hD0 vs a w' hk hφ), ?_, ?_⟩
    · simp [fdF, hxi, upv]
    · simp [fdO, hxi]
  · intro vs a' w' hst
    exact ((hnews vs a' w' (fun j hj => hj) hst hst.ext).2).ent (hend _).1
  · intro vs a' w' hst
    obtain ⟨q1, q2⟩ := hnews vs a' w' (fun _ _ => trivial) hst hst.ext
    obtain ⟨e1, e2⟩ := hend (fun j => match vs j with | .pointer (some a) => a.block | _ => 0)
    have hE1 : knOf l E0 vs (List.range n) = knOf l E0 (gv D fun j => match vs j with | .pointer (some a) => a.block | _ => 0) (List.range n) := knOf_congr fun j hj => by
      have hjn := List.mem_range.1 hj
      obtain ⟨x, hxj⟩ := hx j hjn
      cases x with
      | val u => have := hst.fact j hjn trivial; simp only [fdF, hxj] at this; simp [gv, hxj, this]
      | new t zs => rw [q1 j t zs hxj]; simp [gv, hxj]
    have hk := hst.kn_of (List.range n) (fun j hj => ⟨List.mem_range.1 hj, trivial⟩)
    rw [hE1] at hk
    have := e2.1 w' q2 a' hk hst.dfs (q2.ent e1) (by intro j hj; simp [List.getElem?_drop])
    rwa [List.length_drop] at this

/-! ## Steps of the first part -/
variable {D : List FD} {d : Nat} {op : Op} {ty : TypeId} {pos : String} {aft : Array Edge} {g : Option (Nat × Bool)} {v : Value}
theorem fc_pu (hx : ∀ vs, Pu P (env l E0 D ⟨some d, op, ty, pos, aft, g⟩ vs) op ty v) (h : FC P fl ro N n C l E0 ds b F F0 Q (D ++ [.val v]) rest) : FC P fl ro N n C l E0 ds b F F0 Q D (⟨some d, op, ty, pos, aft, g⟩ :: rest) :=
  .pstep (fun vs a hk W => hx vs W a.eval _ hk.hyp rfl rfl) h
theorem fc_p (hx : ∀ vs, pev tt (env l E0 D ⟨some d, op, ty, pos, aft, g⟩ vs) op = some v) (h : FC P fl ro N n C l E0 ds b F F0 Q (D ++ [.val v]) rest) : FC P fl ro N n C l E0 ds b F F0 Q D (⟨some d, op, ty, pos, aft, g⟩ :: rest) :=
  fc_pu (fun vs => pev_sound (tt := tt) (hx vs)) h
theorem fc_c {c : Prop} (hx : ∀ vs, pevc tt (env l E0 D ⟨some d, op, ty, pos, aft, g⟩ vs) op = some (c, v)) (hc : c) (h : FC P fl ro N n C l E0 ds b F F0 Q (D ++ [.val v]) rest) : FC P fl ro N n C l E0 ds b F F0 Q D (⟨some d, op, ty, pos, aft, g⟩ :: rest) :=
  fc_pu (fun vs => pevc_sound (tt := tt) (hx vs) hc) h
theorem fc_ex (hc : C.contains D.length = false) (hx : ∀ vs w, Sat b F w → Ex P (env l E0 D ⟨some d, op, ty, pos, aft, g⟩ vs) op ty w v w) (h : FC P fl ro N n C l E0 ds b F F0 Q (D ++ [.val v]) rest) : FC P fl ro N n C l E0 ds b F F0 Q D (⟨some d, op, ty, pos, aft, g⟩ :: rest) :=
  .step hc (fun vs _ w' H hk => eff_ex hk (hx vs w' H) ⟨Fr.refl _ _, rfl⟩) h
end
end Go.Eng
/- The engine, part twenty-nine: several cells are read out of a row. Conditions: as part two. -/
namespace Go.Eng
open Go Go.RowKit

section
variable {P : Program} {tt : Nat → Option TI} [TT P tt] {ro : Option Nat} {N : Nat} {l rest : List Oper} {Q : Exit → Act → World → Prop} {E : List (Nat × Value)} {ds : List Deferred} {b : World} {F F0 G : List SP} {fl : Oper → Bool} {kk : Nat}
  {d : Nat} {op : Op} {ty : TypeId} {pos : String} {aft : Array Edge} {g : Option (Nat × Bool)} {v : Value}
theorem ex_ldrow {t g' off e sz n cap at' : Nat} {x : Operand} {i : TI} {cs vs : List Value} (q o : Nat) (ht : tt t = some i) (hagg : aggT i.desc = true) (hx : ev E x = some (.pointer (some ⟨g', at', none⟩))) (hat : at' = off + o) (hF : nth F q = some (row e sz (.slice (some ⟨g', off, none⟩) n cap) n cs)) (hn : 0 < n)
    (hv : (cs.drop o).take i.size = vs) (hl : vs.length = i.size) : ∀ w, Sat b F w → Ex P E (.load t x) ty w (.agg ⟨vs⟩) w := fun w H => by
  obtain ⟨A, c, hv', h1, h2, h3, h4, h5⟩ := H.sl hF
  simp only [Value.slice.injEq] at hv'
  obtain ⟨rfl, _, rfl⟩ := hv'
  obtain ⟨b', off', hA, _, hc⟩ := h5 hn
  cases hA
  subst hat
  refine ex_loadN ht hagg hx hl fun j hj => ?_
  have hj2 : j < i.size := by omega
  have e1 : vs[j]? = cs[o + j]? := by
    rw [← hv, List.getElem?_take, if_pos hj2, List.getElem?_drop]
  rw [e1, Nat.add_assoc]
  refine hc (o + j) ?_
  have : (cs[o + j]?).isSome := by rw [← e1, List.getElem?_eq_getElem hj]; rfl
  rcases Nat.lt_or_ge (o + j) cs.length with h | h
  · exact h
  · rw [List.getElem?_eq_none h] at this; cases this
theorem so_ldrow {t g' off e sz n cap at' : Nat} {x : Operand} {i : TI} {cs vs : List Value} (q o : Nat) (hg : wants l E g = some true) (hop : op = .load t x) (ht : tt t = some i) (hagg : aggT i.desc = true) (hx : ev E x = some (.pointer (some ⟨g', at', none⟩))) (hF : nth F q = some (row e sz (.slice (some ⟨g', off, none⟩) n cap) n cs)) (hd : Nat.blt d N = true) (hat : at' = off + o) (hn : 0 < n)
    (hv : (cs.drop o).take i.size = vs) (hl : vs.length = i.size) (h : SO P ro N l rest Q ((d, .agg ⟨vs⟩) :: E) ds b F) : SO P ro N l (⟨some d, op, ty, pos, aft, g⟩ :: rest) Q E ds b F := by
  subst hop; exact so_rd hg (ex_ldrow q o ht hagg hx hat hF hn hv hl) hd h
theorem sd_ldrow {t g' off e sz n cap at' : Nat} {x : Operand} {i : TI} {cs vs : List Value} (q o : Nat) (hg : wants l E g = some true) (hop : op = .load t x) (ht : tt t = some i) (hagg : aggT i.desc = true) (hx : ev E x = some (.pointer (some ⟨g', at', none⟩))) (hF : nth F0 q = some (row e sz (.slice (some ⟨g', off, none⟩) n cap) n cs)) (hf : fl ⟨some d, op, ty, pos, aft, g⟩ = true) (hd : Nat.blt d N = true)
    (hat : at' = off + o) (hn : 0 < n) (hv : (cs.drop o).take i.size = vs) (hl : vs.length = i.size) (h : SD P fl ro N F0 l (kk + 1) rest Q ((d, .agg ⟨vs⟩) :: E) ds b F) : SD P fl ro N F0 l kk (⟨some d, op, ty, pos, aft, g⟩ :: rest) Q E ds b F := by
  subst hop; exact sd_rd hg (ex_ldrow q o ht hagg hx hat hF hn hv hl) hf hd h
theorem sd_strow {t g' off e sz n cap : Nat} {x y : Operand} {i : TI} {cs vs cs' : List Value} (k o : Nat) (hg : wants l E g = some true) (hf : fl ⟨none, op, ty, pos, aft, g⟩ = false) (hop : op = .store t x y) (ht : tt t = some i) (hx : ev E x = some (.pointer (some ⟨g', off, none⟩))) (hy : ev E y = some v) (hz : zlist v = some vs)
    {o0 : Nat} (hF : nth F k = some (row e sz (.slice (some ⟨g', o0, none⟩) n cap) n cs)) (hG : setF F k (row e sz (.slice (some ⟨g', o0, none⟩) n cap) n cs') = some G) (hc : spl cs o vs = cs') (hs : Nat.beq vs.length i.size = true) (ho : off = o0 + o) (hfit : o + vs.length ≤ cs.length) (hv : ∀ u ∈ vs, u.oneCell' = true) (hE : Ent G F0) (h : SD P fl ro N F0 l (kk + 1) rest Q E ds b G) :
    SD P fl ro N F0 l kk (⟨none, op, ty, pos, aft, g⟩ :: rest) Q E ds b F := by
  subst hop; exact sd_wr hg hf (eu_strow k ht hx hy hz hs hv hF ho hfit hc hG) hE h
/-- A slice literal of one element of several cells. -/
theorem ex_lit1 {t e s1 s2 : Nat} {z1 : Value} {f1 : List (Nat × Nat)} {i : TI} {x : Operand} {cs : List Value} {w : World} (ht : tt t = some ⟨.slice e, s1, s2, z1, f1⟩) (he : tt e = some i) (hx : ev E x = some v) (hz : zlist v = some cs) (hl : cs.length = i.size) (hs : i.size ≤ 16777216) :
    Ex P E (.buildSlice t 1 ⟨[(0, x)]⟩) ty w (.slice (some ⟨w.heap.size, 0, none⟩) 1 1) (w.alloc (.cells cs.toArray e)) := by
  have hc := zlist_eq hz
  refine ex_buildSlice ht he (vs := [(0, v)]) (by simp [hx]) rfl (by omega) fun z hz' => ?_
  have h1 : Nat.beq v.cells.size i.size = true := by
    have : v.cells.size = i.size := by rw [← hl, ← hc]; simp
    rw [this]; exact Nat.beq_refl _
  have h2 : Nat.ble i.size z.length = true := Nat.ble_eq_true_of_le (by omega)
  simp only [fillL, h1, hc, spl, Nat.zero_mul, List.take_zero, List.nil_append, Nat.zero_add]
  rw [List.drop_of_length_le (by omega), List.append_nil, h2]
theorem so_lit1 {t e s1 s2 : Nat} {z1 : Value} {f1 : List (Nat × Nat)} {i : TI} {x : Operand} {cs : List Value} (hg : wants l E g = some true) (hop : op = .buildSlice t 1 ⟨[(0, x)]⟩) (ht : tt t = some ⟨.slice e, s1, s2, z1, f1⟩) (he : tt e = some i) (hx : ev E x = some v) (hz : zlist v = some cs) (hd : Nat.blt d N = true) (hl : cs.length = i.size) (hs : i.size ≤ 16777216)
    (h : ∀ g', SO P ro N l rest Q ((d, .slice (some ⟨g', 0, none⟩) 1 1) :: E) ds b (pt g' e cs :: F)) : SO P ro N l (⟨some d, op, ty, pos, aft, g⟩ :: rest) Q E ds b F := by
  subst hop
  exact ⟨fun w H => ow_ex hg (ex_lit1 ht he hx hz hl hs) hd ((h w.heap.size).1 _ (H.alloc (Fr.alloc w _) (Blk.new w e cs) (Nat.le_refl _)))⟩
theorem sd_lit1 {t e s1 s2 : Nat} {z1 : Value} {f1 : List (Nat × Nat)} {i : TI} {x : Operand} {cs : List Value} (hg : wants l E g = some true) (hf : fl ⟨some d, op, ty, pos, aft, g⟩ = false) (hop : op = .buildSlice t 1 ⟨[(0, x)]⟩) (ht : tt t = some ⟨.slice e, s1, s2, z1, f1⟩) (he : tt e = some i) (hx : ev E x = some v) (hz : zlist v = some cs) (hd : Nat.blt d N = true) (hl : cs.length = i.size) (hs : i.size ≤ 16777216) (hE : Ent F F0)
    (h : ∀ g', SD P fl ro N F0 l (kk + 1) rest Q ((d, .slice (some ⟨g', 0, none⟩) 1 1) :: E) ds b (pt g' e cs :: F)) : SD P fl ro N F0 l kk (⟨some d, op, ty, pos, aft, g⟩ :: rest) Q E ds b F := by
  subst hop
  exact ⟨fun w H => dw_ex hg hf (ex_lit1 ht he hx hz hl hs) ((H.ext (Fr.alloc w _)).ent hE) hd ((h w.heap.size).1 _ (H.alloc (Fr.alloc w _) (Blk.new w e cs) (Nat.le_refl _)))⟩
variable {n : Nat} {C : List Nat} {E0 : List (Nat × Value)} {D : List FD}
theorem fc_ldrow {t g' off e sz m cap at' : Nat} {x : Operand} {i : TI} {cs us : List Value} (q o : Nat) (hc : C.contains D.length = false) (hop : op = .load t x) (ht : tt t = some i) (hagg : aggT i.desc = true) (hx : ∀ vs, ev (env l E0 D ⟨some d, op, ty, pos, aft, g⟩ vs) x = some (.pointer (some ⟨g', at', none⟩))) (hF : nth F q = some (row e sz (.slice (some ⟨g', off, none⟩) m cap) m cs))
    (hat : at' = off + o) (hm : 0 < m) (hv : (cs.drop o).take i.size = us) (hl : us.length = i.size) (h : FC P fl ro N n C l E0 ds b F F0 Q (D ++ [.val (.agg ⟨us⟩)]) rest) : FC P fl ro N n C l E0 ds b F F0 Q D (⟨some d, op, ty, pos, aft, g⟩ :: rest) := by
  subst hop; exact fc_ex hc (fun vs => ex_ldrow q o ht hagg (hx vs) hat hF hm hv hl) h
end
end Go.Eng
/- The engine, part thirty-one: append of so many zeros to nothing (what is grown). Conditions: as part two. -/
namespace Go.Eng
open Go Go.RowKit

theorem law_of {P : Program} {f : FuncId} {args : List Value} {W : World} (h : SC P f args W [Is W] (fun v F' => v = .bool true ∧ F' = [Is W])) : Calls P f args.toArray W (fun e w' => e = .returned (.bool true) ∧ Ext W w') :=
  (h W (Sat.start W)).mono fun _ _ ⟨_, _, h1, ⟨h2, h3⟩, h4⟩ => by subst h2; subst h3; exact ⟨h1, h4.is (k := 0) rfl⟩
theorem is_vl {α : Type} {f : α → Value} {W : World} {v : Value} {xs : List α} (h : VL f W v xs) {F : List SP} {k : Nat} (hk : nth F k = some (Is W)) : ∀ w, Sat W F w → VL f w v xs := fun _ H => h.ext (H.is hk)
section
variable {P : Program} {tt : Nat → Option TI} [TT P tt] {ro : Option Nat} {N : Nat} {l rest : List Oper} {Q : Exit → Act → World → Prop} {E : List (Nat × Value)} {ds : List Deferred} {b : World} {F G : List SP}
  {d : Nat} {op : Op} {ty : TypeId} {pos : String} {aft : Array Edge} {g : Option (Nat × Bool)} {v : Value}
/-- A slice literal of no element. -/
theorem so_lit0 {t e s1 s2 : Nat} {z1 : Value} {f1 : List (Nat × Nat)} {i : TI} (hg : wants l E g = some true) (hop : op = .buildSlice t 0 ⟨[]⟩) (ht : tt t = some ⟨.slice e, s1, s2, z1, f1⟩) (he : tt e = some i) (hd : Nat.blt d N = true)
    (h : ∀ g', SO P ro N l rest Q ((d, .slice (some ⟨g', 0, none⟩) 0 0) :: E) ds b (pt g' e [] :: F)) : SO P ro N l (⟨some d, op, ty, pos, aft, g⟩ :: rest) Q E ds b F := by
  subst hop
  exact ⟨fun w H => ow_ex hg (ex_buildSlice (vs := []) (cells := []) ht he rfl rfl (by omega) (fun z hz => by
    have : z = [] := List.eq_nil_of_length_eq_zero (by omega)
    subst this; rfl)) hd ((h w.heap.size).1 _ (H.alloc (Fr.alloc w _) (Blk.new w e []) (Nat.le_refl _)))⟩
end
end Go.Eng
/- The engine, part thirty-two: arguments of any depth are opened. Conditions: as part two. -/
namespace Go.Eng
open Go Go.RowKit Go.ChangeShapes Go.WideShapes Go.ChangeAt Go.Deep

/-- How cells read. -/
abbrev Rdg (α : Type) := World → List Value → α → Prop
def rdI (k : IntKind) : Rdg Int := fun _ cs n => cs = [.int k n] ∧ (Lit.int k n).wf = true
def rdS : Rdg ByteArray := fun _ cs s => cs = [.string s] ∧ s.size ≤ maxLen
def rdL {α : Type} (sz : Nat) (R : Rdg α) : Rdg (Value × List α) := fun W cs x => cs = [x.1] ∧ ∃ ess : List (List Value), ess.length = x.2.length ∧ (∀ e ∈ ess, e.length = sz) ∧ SL W sz x.1 x.2.length ess.flatten ∧ ∀ (i : Nat) e a, ess[i]? = some e → x.2[i]? = some a → R W e a
def rdA (n : Nat) (k : IntKind) : Rdg (List Int) := fun _ cs x => cs = x.map (Value.int k) ∧ x.length = n ∧ ∀ c ∈ x, (Lit.int k c).wf = true
def rdN {α β : Type} (n : Nat) (R : Rdg α) (S : Rdg β) : Rdg (α × β) := fun W cs x => R W (cs.take n) x.1 ∧ S W (cs.drop n) x.2

def Opens {α : Type} (P : Program) (t : TypeId) (R : Rdg α) : Prop := ∀ (H : Type) (enc : TypeId × Value → H) (W : World) (base : Nat) (spare : Nat → Bool) (held : Bool) (fuel : Nat) (cs : List Value) y, DataW.trod enc P W base spare held fuel t cs = some y → ∃ x, R W cs x
variable {P : Program}
theorem opens_int {t : TypeId} {k : IntKind} (ht : P.underlying t = some (.int k)) : Opens P t (rdI k) := by
  intro H enc W base spare held fuel cs y h
  cases fuel with
  | zero => simp [DataW.trod] at h
  | succ n =>
    unfold DataW.trod at h
    rw [ht] at h
    split at h <;> simp_all
    exact ⟨_, ⟨by obtain ⟨⟨rfl, _⟩, _⟩ := h; rfl, h.1.2⟩⟩
theorem opens_str {t : TypeId} (ht : P.underlying t = some .string) : Opens P t rdS := by
  intro H enc W base spare held fuel cs y h
  cases fuel with
  | zero => simp [DataW.trod] at h
  | succ n =>
    unfold DataW.trod at h
    rw [ht] at h
    split at h <;> simp_all
    exact ⟨_, ⟨rfl, h.1⟩⟩
theorem flat_get {sz : Nat} : ∀ {ess : List (List Value)}, (∀ e ∈ ess, e.length = sz) → ∀ (i k : Nat), k < sz → ess.flatten[i * sz + k]? = (ess[i]?).bind (·[k]?)
  | [], _, i, k, _ => by simp
  | e :: ess, h, 0, k, hk => by
    have := h e (by simp)
    simp only [List.flatten_cons, Nat.zero_mul, Nat.zero_add]
    rw [List.getElem?_append_left (by omega)]; rfl
  | e :: ess, h, i + 1, k, hk => by
    have he := h e (by simp)
    have ih := flat_get (ess := ess) (fun x hx => h x (by simp [hx])) i k hk
    simp only [List.flatten_cons]
    rw [List.getElem?_append_right (by rw [he, Nat.succ_mul]; omega), he, show (i + 1) * sz + k - sz = i * sz + k by rw [Nat.succ_mul]; omega, ih]; rfl
theorem flat_len {sz : Nat} : ∀ {ess : List (List Value)}, (∀ e ∈ ess, e.length = sz) → ess.flatten.length = ess.length * sz
  | [], _ => by simp
  | e :: ess, h => by
    have ih := flat_len (ess := ess) (fun x hx => h x (by simp [hx]))
    simp only [List.flatten_cons, List.length_append, h e (by simp), ih, List.length_cons, Nat.succ_mul]; omega
theorem pick_list {β α : Type} (p : Nat → β → α → Prop) : ∀ n, (∀ i, i < n → ∃ c x, p i c x) → ∃ (cs : List β) (xs : List α), cs.length = n ∧ xs.length = n ∧ ∀ i c x, cs[i]? = some c → xs[i]? = some x → p i c x
  | 0, _ => ⟨[], [], rfl, rfl, by simp⟩
  | n + 1, h => by
    obtain ⟨cs, xs, h1, h2, h3⟩ := pick_list p n fun i hi => h i (by omega)
    obtain ⟨c, x, hp⟩ := h n (by omega)
    refine ⟨cs ++ [c], xs ++ [x], by simp [h1], by simp [h2], fun i c' x' e1 e2 => ?_⟩
    rcases Nat.lt_trichotomy i n with hi | rfl | hi
    · rw [List.getElem?_append_left (by omega)] at e1 e2
      exact h3 i c' x' e1 e2
    · rw [List.getElem?_append_right (by omega), h1] at e1
      rw [List.getElem?_append_right (by omega), h2] at e2
      simp at e1 e2; subst e1; subst e2; exact hp
    · have := (List.getElem?_eq_some_iff.1 e1).1
      simp at this; omega
theorem opens_list {α : Type} {R : Rdg α} {t e : TypeId} {sz : Nat} (ht : P.underlying t = some (.slice e)) (hsz : P.cellsOf e = sz) (h0 : 0 < sz) (he : Opens P e R) : Opens P t (rdL sz R) := by
  intro H enc W base spare held fuel cs y h
  rcases open_slice ht h with ⟨rfl, _⟩ | ⟨a, len, cap, m, n, D, Pl, rfl, _, hc, hm, hmm, _, hel⟩
  · exact ⟨(.slice none 0 0, []), rfl, [], rfl, by simp, ⟨none, 0, rfl, by simp, Nat.le_refl _, Nat.zero_le _, fun _ => rfl, fun h => absurd h (Nat.lt_irrefl 0)⟩, by simp⟩
  have hlm : len ≤ m := by rw [hmm]; split <;> omega
  rw [hsz] at hel
  obtain ⟨ess, xs, e1, e2, e3⟩ := pick_list (fun i c x => W.cells? base (a.add (i * sz)) sz = some c ∧ R W c x) len fun i hi => by
    obtain ⟨cs', h1, h2⟩ := hel i (by omega)
    obtain ⟨x, hx⟩ := he _ _ _ _ _ _ _ _ _ h2
    exact ⟨cs', x, h1, hx⟩
  have hlen : ∀ c ∈ ess, c.length = sz := fun c hc => by
    obtain ⟨i, hi, rfl⟩ := List.mem_iff_getElem.1 hc
    have := (e3 i _ _ (List.getElem?_eq_getElem hi) (List.getElem?_eq_getElem (l := xs) (i := i) (by omega))).1
    exact (World.cells?_some this).2.1
  refine ⟨(.slice (some a) len cap, xs), rfl, ess, by dsimp only; omega, hlen, ⟨some a, cap, by rw [e2], by rw [flat_len hlen, e1, e2], by dsimp only; omega, hm, by simp, fun hn => ?_⟩, fun i c x h1 h2 => (e3 i c x h1 h2).2⟩
  rw [e2] at hn
  have hcell : ∀ i k, i < len → k < sz → W.cell? (a.add (i * sz + k)) = ess.flatten[i * sz + k]? := fun i k hi hk => by
    have hi' : i < ess.length := by omega
    have := (e3 i _ _ (List.getElem?_eq_getElem hi') (List.getElem?_eq_getElem (l := xs) (i := i) (by omega))).1
    have h2 := (World.cells?_some this).2.2 k hk
    rw [flat_get hlen i k hk, List.getElem?_eq_getElem hi', Option.bind_some, ← h2]
    rw [Addr.add_add]
  obtain ⟨b, off, spot⟩ := a
  have h00 := hcell 0 0 hn h0
  have hfl := flat_len hlen
  have hpos : 0 < ess.flatten.length := by rw [hfl, e1]; exact Nat.mul_pos hn h0
  have hc0 : W.cell? ⟨b, off, spot⟩ = some ess.flatten[0] := by
    rw [← List.getElem?_eq_getElem hpos]
    simpa [Addr.add] using h00
  have hspot : spot = none := World.cell?_spot hc0
  subst hspot
  refine ⟨b, off, rfl, World.block_lt_of_cell? W _ hc0, fun j hj => ?_⟩
  rw [hfl, e1] at hj
  have hdm : j / sz * sz + j % sz = j := by rw [Nat.mul_comm]; exact Nat.div_add_mod j sz
  have := hcell (j / sz) (j % sz) (Nat.div_lt_of_lt_mul (by rw [Nat.mul_comm]; exact hj)) (Nat.mod_lt _ h0)
  rw [hdm] at this
  rw [← this]
  congr 1
  unfold Addr.add; split <;> simp_all
theorem opens_arr {t e : TypeId} {n : Nat} {k : IntKind} (ht : P.underlying t = some (.array n e)) (hu : P.underlying e = some (.int k)) (he : P.cellsOf e = 1) (hn : P.cellsOf t = n) : Opens P t (rdA n k) := by
  intro H enc W base spare held fuel cs y h
  cases fuel with
  | zero => simp [DataW.trod] at h
  | succ m =>
    unfold DataW.trod at h
    rw [ht] at h
    dsimp only at h
    rw [hn, he] at h
    by_cases hl : cs.length = n
    · rw [if_pos hl] at h
      simp only [Option.map_eq_some_iff] at h
      obtain ⟨xs, hp, _⟩ := h
      have key : ∀ i, i < n → ∃ (_ : Unit) (x : Int), cs[i]? = some (.int k x) ∧ (Lit.int k x).wf = true := fun i hi => by
        have h1 := mapM_some_get hp i i (by simp [hi])
        have hlt : i < xs.length := by rw [mapM_some_length hp]; simpa using hi
        rw [List.getElem?_eq_getElem hlt] at h1
        obtain ⟨z, hz⟩ := opens_int hu _ _ _ _ _ _ _ _ _ h1
        refine ⟨(), z, ?_, hz.2⟩
        have h2 : ((cs.drop (i * 1)).take 1)[0]? = some (.int k z) := by rw [hz.1]; rfl
        simpa using h2
      obtain ⟨us, zs, u1, z2, z3⟩ := pick_list (fun i (_ : Unit) (x : Int) => cs[i]? = some (.int k x) ∧ (Lit.int k x).wf = true) n key
      have hz : ∀ i (hi : i < n), cs[i]? = some (.int k (zs[i]'(by omega))) ∧ (Lit.int k (zs[i]'(by omega))).wf = true := fun i hi =>
        z3 i () _ (List.getElem?_eq_getElem (l := us) (by omega)) (List.getElem?_eq_getElem (by omega))
      refine ⟨zs, ?_, z2, fun c hc => ?_⟩
      · apply List.ext_getElem?
        intro i
        by_cases hi : i < n
        · rw [(hz i hi).1, List.getElem?_map, List.getElem?_eq_getElem (by omega)]; rfl
        · rw [List.getElem?_eq_none (by omega), List.getElem?_eq_none (by simp; omega)]
      · obtain ⟨i, hi, rfl⟩ := List.mem_iff_getElem.1 hc
        exact (hz i (by omega)).2
    · rw [if_neg hl] at h; cases h
/-- The fields of a struct, from o on. -/
inductive OpF (P : Program) : {α : Type} → List Field → Nat → Nat → Rdg α → Prop
  | one {α : Type} {f : Field} {o n : Nat} {R : Rdg α} (h1 : f.offset = o) (h2 : P.cellsOf f.type = n) (h : Opens P f.type R) : OpF P [f] o n R
  | cons {α β : Type} {f : Field} {fs : List Field} {o n m : Nat} {R : Rdg α} {S : Rdg β} (h1 : f.offset = o) (h2 : P.cellsOf f.type = n) (h : Opens P f.type R) (hs : OpF P fs (o + n) m S) : OpF P (f :: fs) o (n + m) (rdN n R S)
theorem opens_fields {α : Type} {fs : List Field} {o m : Nat} {R : Rdg α} (h : OpF P fs o m R) : ∀ {H : Type} {enc : TypeId × Value → H} {W : World} {base : Nat} {spare : Nat → Bool} {held : Bool} {fuel : Nat} {cs : List Value}, cs.length = o + m →
    (∀ (i : Nat) f, fs[i]? = some f → ∃ y, DataW.trod enc P W base spare held fuel f.type ((cs.drop f.offset).take (P.cellsOf f.type)) = some y) → ∃ x, R W (cs.drop o) x := by
  induction h with
  | @one α f o n R h1 h2 h =>
    intro H enc W base spare held fuel cs hl hf
    obtain ⟨y, hy⟩ := hf 0 _ rfl
    rw [h1, h2, List.take_of_length_le (by rw [List.length_drop]; omega)] at hy
    exact h _ _ _ _ _ _ _ _ _ hy
  | @cons α β f fs o n m R S h1 h2 h hs ih =>
    intro H enc W base spare held fuel cs hl hf
    obtain ⟨y, hy⟩ := hf 0 _ rfl
    rw [h1, h2] at hy
    obtain ⟨x1, hx1⟩ := h _ _ _ _ _ _ _ _ _ hy
    obtain ⟨x2, hx2⟩ := ih (fuel := fuel) (spare := spare) (base := base) (held := held) (enc := enc) (cs := cs) (W := W) (by omega) fun i f hf' => hf (i + 1) f hf'
    exact ⟨(x1, x2), hx1, by rw [List.drop_drop]; exact hx2⟩
theorem opens_struct {α : Type} {R : Rdg α} {t : TypeId} {fs : List Field} {m : Nat} (ht : P.underlying t = some (.struct ⟨fs⟩)) (hsz : P.cellsOf t = m) (h : OpF P fs 0 m R) : Opens P t R := by
  intro H enc W base spare held fuel cs y hy
  obtain ⟨xs, n, _, _, hl, hx, hf⟩ := DataW.trod_struct ht hy
  have := opens_fields h (enc := enc) (W := W) (base := base) (spare := spare) (held := held) (fuel := n) (cs := cs) (by omega) fun i f hf' => by
    have h1 := hf i f (by simpa using hf')
    have hi : i < xs.length := by
      have := (List.getElem?_eq_some_iff.1 hf').1
      simp at hx; omega
    rw [List.getElem?_eq_getElem hi] at h1
    exact ⟨_, h1⟩
  simpa using this
/-- An argument is opened. -/
theorem open_arg {α : Type} {R : Rdg α} {t : TypeId} (ho : Opens P t R) {H : Type} {enc : TypeId × Value → H} {W : World} {base : Nat} {spare : Nat → Bool} {held : Bool} {v : Value} {d : DataW H} {ps : List MemPlace} (h : DataW.Trod enc P W base spare held t v d ps) : ∃ x, R W v.cells.toList x := by
  obtain ⟨fuel, hf⟩ := h
  exact ho _ _ _ _ _ _ _ _ _ hf
end Go.Eng
/- The engine, part thirty-three: a slice is made; what lies in a world at first is told to a contract that only reads. Conditions: as part two. -/
namespace Go.Eng
open Go Go.RowKit

/-- Ways come together again behind c. -/
theorem sw_cutT {P : Program} {ro : Option Nat} {N : Nat} {Q : Exit → Act → World → Prop} {E : List (Nat × Value)} {ds : List Deferred} {b : World} {F : List SP} {c y : Code} {S : Type} (Em : S → List (Nat × Value)) (Fm : S → List SP) (I : S → Prop) (hy : ∀ s, I s → SW P ro N y Q (Em s) ds b (Fm s))
    (hc : (∀ s E' F', I s → Sub (Em s) E' → Ent F' (Fm s) → SN N (Then P ro y Q) .normal E' ds b F') → SW P ro N c (Then P ro y Q) E ds b F) : SW P ro N c (Then P ro y Q) E ds b F :=
  hc fun s _ _ hI hs he => sn_then (sw_sub hs (sw_ent he (hy s hI)))
section
variable {P : Program} {tt : Nat → Option TI} [TT P tt] {ro : Option Nat} {N : Nat} {l rest : List Oper} {Q : Exit → Act → World → Prop} {E : List (Nat × Value)} {ds : List Deferred} {b : World} {F G : List SP}
  {d : Nat} {op : Op} {ty : TypeId} {pos : String} {aft : Array Edge} {g : Option (Nat × Bool)} {v : Value}
theorem so_make {t e n sz s1 s2 : Nat} {z1 : Value} {f1 : List (Nat × Nat)} {i : TI} {x y : Operand} {m : Int} {cs : List Value} (hg : wants l E g = some true) (hd : Nat.blt d N = true) (hop : op = .makeSlice t x y)
    (ht : tt t = some ⟨.slice e, s1, s2, z1, f1⟩) (he : tt e = some i) (hi : (Nat.beq i.size sz && Nat.ble i.bytes 2097152) = true)
    (hx : ev E x = some (.int .i64 m)) (hy : ev E y = some (.int .i64 m)) (hm : m = (n : Int)) (hn : n ≤ 67108864) (hcs : (madeCells i.zero.cells (n * sz)).toList = cs)
    (h : ∀ g', SO P ro N l rest Q ((d, .slice (some ⟨g', 0, none⟩) n n) :: E) ds b (row e sz (.slice (some ⟨g', 0, none⟩) n n) n cs :: F)) : SO P ro N l (⟨some d, op, ty, pos, aft, g⟩ :: rest) Q E ds b F := by
  subst hcs
  exact ⟨fun w H => ow_make hg hd hop ht he hi hx hy hm hn (Nat.le_refl _) fun w' hmine hext => (h w.heap.size).1 w' (H.newOat hext (Mine.oat hmine))⟩
end
end Go.Eng
/- The engine, part thirty-four: a drawn region in which one new variable's block may be made at any time before its first use. Conditions: as part seven. -/
namespace Go.Eng
open Go Go.RowKit

section
variable {P : Program} {ro : Option Nat} {l : List Oper} {Q : Exit → Act → World → Prop} {S : World → Prop} {fl : Oper → Bool} {y : Nat} {oy : Oper}

/-- y now, then the others in order. -/
def AN (P : Program) (fl : Oper → Bool) (ro : Option Nat) (l : List Oper) (S : World → Prop) (Q : Exit → Act → World → Prop) (oy : Oper) (R : List Nat) (a : Act) (w : World) : Prop :=
  Eff P ro oy a w fun v w' => S w' ∧ Tx P fl ro l S Q R (a.put oy.dst v) w'
/-- The others in order, y at any time. -/
def T1 (P : Program) (fl : Oper → Bool) (ro : Option Nat) (l : List Oper) (S : World → Prop) (Q : Exit → Act → World → Prop) (y : Nat) (oy : Oper) : List Nat → Act → World → Prop
  | [], a, w => AN P fl ro l S Q oy [] a w
  | i :: R, a, w => AN P fl ro l S Q oy (i :: R) a w ∧ ((ancs l i).contains y = false → ∃ o, l[i]? = some o ∧
      (Region.wanted o (yielded l.toArray a.tmps) = true →
        (fl o = true ∧ ∃ v, (∀ W, S W → (execOp a.eval o).run P W = .ok (.value v) W) ∧ T1 P fl ro l S Q y oy R (a.put o.dst v) w) ∨
        (fl o = false ∧ Eff P ro o a w fun v w' => S w' ∧ T1 P fl ro l S Q y oy R (a.put o.dst v) w')) ∧
      (Region.wanted o (yielded l.toArray a.tmps) = false → T1 P fl ro l S Q y oy R (a.put o.dst undef) w))
theorem T1.an {R : List Nat} {a : Act} {w : World} (h : T1 P fl ro l S Q y oy R a w) : AN P fl ro l S Q oy R a w := by
  cases R with
  | nil => exact h
  | cons i R => exact h.1

theorem eff_put {o p : Oper} {a : Act} {u : Value} {w : World} {n : Value → World → Prop} (hs : noSel o = true) (h : Apart l p o) : Eff P ro o (a.put p.dst u) w n ↔ Eff P ro o a w n := by
  unfold Eff; rw [run_put hs h]

/-- What y now says, when a reading operation goes first. -/
theorem AN.first (hns : ∀ (i : Nat) (o : Oper), l[i]? = some o → noSel o = true) {i : Nat} {oi : Oper} (hi : l[i]? = some oi) (hf : fl oi = true) (hsy : noSel oy = true) (hyi : Apart l oy oi) {R1 R2 : List Nat} {a : Act} {w : World}
    (hap : ∀ r ∈ R1, ∀ p : Oper, l[(r : Nat)]? = some p → Apart l p oi) (h : AN P fl ro l S Q oy (R1 ++ i :: R2) a w) :
    ∃ v, Fl P l S oi a v ∧ AN P fl ro l S Q oy (R1 ++ R2) (a.put oi.dst v) w := by
  obtain ⟨g0, w0, hS0, ht0⟩ := h.some
  obtain ⟨v, hv, _⟩ := Tx.first hns hi hf R1 _ w0 hap hS0 ht0
  have hsi := hns _ _ hi
  have hv := (Fl.put hsi hyi).1 hv
  refine ⟨v, hv, ?_⟩
  unfold AN
  rw [eff_put hsy hyi.symm]
  refine Eff.mono h ?_
  rintro g w' ⟨hS', ht'⟩
  obtain ⟨v', hv', ht''⟩ := Tx.first hns hi hf R1 _ w' hap hS' ht'
  have hv' := (Fl.put hsi hyi).1 hv'
  have := Fl.unique hS' hv hv'
  subst this
  refine ⟨hS', ?_⟩
  rw [put_put hyi.symm]; exact ht''

theorem T1.first (hns : ∀ (i : Nat) (o : Oper), l[i]? = some o → noSel o = true) {i : Nat} {oi : Oper} (hi : l[i]? = some oi) (hf : fl oi = true) (hsy : noSel oy = true) (hyi : Apart l oy oi) (hyd : (ancs l i).contains y = false) {R2 : List Nat} :
    ∀ (R1 : List Nat) (a : Act) (w : World), (∀ r ∈ R1, ∀ p : Oper, l[(r : Nat)]? = some p → Apart l p oi) → S w → T1 P fl ro l S Q y oy (R1 ++ i :: R2) a w →
      ∃ v, Fl P l S oi a v ∧ T1 P fl ro l S Q y oy (R1 ++ R2) (a.put oi.dst v) w := by
  intro R1
  induction R1 with
  | nil =>
    intro a w _ hS h
    simp only [List.nil_append] at h ⊢
    obtain ⟨o, ho, hw, hn⟩ := h.2 hyd
    rw [hi] at ho
    cases ho
    cases hwant : Region.wanted oi (yielded l.toArray a.tmps) with
    | true =>
      rcases hw hwant with ⟨_, v, hv, ht⟩ | ⟨hff, _⟩
      · exact ⟨v, ⟨fun _ => hv, fun hc => (by rw [hwant] at hc; cases hc)⟩, ht⟩
      · rw [hf] at hff; cases hff
    | false => exact ⟨undef, ⟨fun hc => (by rw [hwant] at hc; cases hc), fun _ => rfl⟩, hn hwant⟩
  | cons r R1 ih =>
    intro a w hap hS h
    have hap' : ∀ r ∈ R1, ∀ p : Oper, l[(r : Nat)]? = some p → Apart l p oi := fun r hr => hap r (List.mem_cons_of_mem _ hr)
    obtain ⟨v0, hv0, han⟩ := AN.first hns hi hf hsy hyi (R1 := r :: R1) hap h.1
    have hsi := hns _ _ hi
    refine ⟨v0, hv0, han, fun hdr => ?_⟩
    obtain ⟨p, hp, hw, hn⟩ := h.2 hdr
    have hapr := hap r List.mem_cons_self p hp
    have hsp := hns _ _ hp
    cases hwant : Region.wanted p (yielded l.toArray a.tmps) with
    | false =>
      obtain ⟨v, hv, ht⟩ := ih _ w hap' hS (hn hwant)
      have hv := (Fl.put hsi hapr).1 hv
      have := Fl.unique hS hv0 hv
      subst this
      refine ⟨p, hp, fun hc => ?_, fun _ => ?_⟩
      · rw [want_put hapr.symm, hwant] at hc; cases hc
      · rw [put_put hapr.symm]; exact ht
    | true =>
      rcases hw hwant with ⟨hfp, u, hu, ht0⟩ | ⟨hfp, he⟩
      · obtain ⟨v, hv, ht⟩ := ih _ w hap' hS ht0
        have hv := (Fl.put hsi hapr).1 hv
        have := Fl.unique hS hv0 hv
        subst this
        refine ⟨p, hp, fun _ => .inl ⟨hfp, u, ?_, ?_⟩, fun hc => ?_⟩
        · rw [run_put hsp hapr.symm]; exact hu
        · rw [put_put hapr.symm]; exact ht
        · rw [want_put hapr.symm, hwant] at hc; cases hc
      · refine ⟨p, hp, fun _ => .inr ⟨hfp, ?_⟩, fun hc => ?_⟩
        · rw [eff_put hsp hapr.symm]
          refine he.mono ?_
          rintro u w' ⟨hS', ht'⟩
          obtain ⟨v', hv', ht''⟩ := ih _ w' hap' hS' ht'
          have hv' := (Fl.put hsi hapr).1 hv'
          have := Fl.unique hS' hv0 hv'
          subst this
          refine ⟨hS', ?_⟩
          rw [put_put hapr.symm]; exact ht''
        · rw [want_put hapr.symm, hwant] at hc; cases hc

theorem T1.over (hns : ∀ (i : Nat) (o : Oper), l[i]? = some o → noSel o = true) {i : Nat} {oi : Oper} (hi : l[i]? = some oi) (hf : fl oi = false) (hsy : noSel oy = true) (hyd : (ancs l i).contains y = false) {R2 : List Nat} :
    ∀ (R1 : List Nat) (a : Act) (w : World), (∀ r ∈ R1, (ancs l r).contains y = false ∧ ∀ p : Oper, l[(r : Nat)]? = some p → Apart l p oi ∧ fl p = true ∧ Apart l oy p) → S w → T1 P fl ro l S Q y oy (R1 ++ i :: R2) a w →
      (Region.wanted oi (yielded l.toArray a.tmps) = true → Eff P ro oi a w fun v w' => S w' ∧ T1 P fl ro l S Q y oy (R1 ++ R2) (a.put oi.dst v) w') ∧
      (Region.wanted oi (yielded l.toArray a.tmps) = false → T1 P fl ro l S Q y oy (R1 ++ R2) (a.put oi.dst undef) w) := by
  intro R1
  induction R1 with
  | nil =>
    intro a w _ _ h
    simp only [List.nil_append] at h ⊢
    obtain ⟨o, ho, hw, hn⟩ := h.2 hyd
    rw [hi] at ho
    cases ho
    refine ⟨fun hwant => ?_, hn⟩
    rcases hw hwant with ⟨hff, _⟩ | ⟨_, he⟩
    · rw [hf] at hff; cases hff
    · exact he
  | cons r R1 ih =>
    intro a w hap hS h
    obtain ⟨hdr, hapr0⟩ := hap r List.mem_cons_self
    obtain ⟨p, hp, hw, hn⟩ := h.2 hdr
    obtain ⟨hapr, hfp, hyp⟩ := hapr0 p hp
    have hap' : ∀ r ∈ R1, (ancs l r).contains y = false ∧ ∀ p : Oper, l[(r : Nat)]? = some p → Apart l p oi ∧ fl p = true ∧ Apart l oy p := fun r hr => hap r (List.mem_cons_of_mem _ hr)
    have hsp := hns _ _ hp
    have hsi := hns _ _ hi
    -- p reads: its value, and what is left when it has run
    have key : ∃ u, Fl P l S p a u ∧ T1 P fl ro l S Q y oy (R1 ++ i :: R2) (a.put p.dst u) w := by
      cases hwant : Region.wanted p (yielded l.toArray a.tmps) with
      | false => exact ⟨undef, ⟨fun hc => (by rw [hwant] at hc; cases hc), fun _ => rfl⟩, hn hwant⟩
      | true =>
        rcases hw hwant with ⟨_, u, hu, ht0⟩ | ⟨hff, _⟩
        · exact ⟨u, ⟨fun _ => hu, fun hc => (by rw [hwant] at hc; cases hc)⟩, ht0⟩
        · rw [hfp] at hff; cases hff
    obtain ⟨u, hu, ht⟩ := key
    obtain ⟨h1, h2⟩ := ih _ w hap' hS ht
    rw [want_put hapr] at h1 h2
    -- back: p is laid ahead again
    have back : ∀ v w', S w' → T1 P fl ro l S Q y oy (R1 ++ R2) ((a.put p.dst u).put oi.dst v) w' → T1 P fl ro l S Q y oy (r :: (R1 ++ R2)) (a.put oi.dst v) w' := by
      intro v w' hS' ht'
      rw [← put_put hapr.symm] at ht'
      have hu' : Fl P l S p (a.put oi.dst v) u := (Fl.put hsp hapr.symm).2 hu
      refine ⟨?_, fun _ => ⟨p, hp, fun hc => .inl ⟨hfp, u, hu'.1 hc, ht'⟩, fun hc => ?_⟩⟩
      · have han := ht'.an
        unfold AN at han ⊢
        rw [eff_put hsy hyp.symm] at han
        refine han.mono ?_
        rintro g w2 ⟨hS2, hT⟩
        refine ⟨hS2, p, hp, fun hc => .inl ⟨hfp, u, ?_, ?_⟩, fun hc => ?_⟩
        · rw [run_put hsp hyp]
          rw [want_put hyp] at hc
          exact hu'.1 hc
        · rw [put_put hyp]; exact hT
        · rw [want_put hyp] at hc
          have := hu'.2 hc
          subst this
          rw [put_put hyp]; exact hT
      · have := hu'.2 hc
        subst this
        exact ht'
    refine ⟨fun hwi => ?_, fun hwi => back _ _ hS (h2 hwi)⟩
    have he := h1 hwi
    rw [eff_put hsi hapr] at he
    exact he.mono fun v w' ⟨hS', ht'⟩ => ⟨hS', back _ _ hS' ht'⟩

end
end Go.Eng
/- The engine, part thirty-five: walking a drawn region in which one new variable's block may be made at any time. Conditions: as part seven. -/
namespace Go.Eng
open Go Go.RowKit

section
variable {P : Program} {tt : Nat → Option TI} [TT P tt] {ro : Option Nat} {N : Nat} {l rest : List Oper} {Q : Exit → Act → World → Prop} {E : List (Nat × Value)} {ds : List Deferred} {b : World} {F F0 G : List SP} {fl : Oper → Bool} {k : Nat}
  {y dy t : Nat} {zs : List Value} {oy o : Oper}

variable {d : Nat} {op : Op} {ty : TypeId} {pos : String} {aft : Array Edge} {g : Option (Nat × Bool)} {v : Value}
end
end Go.Eng
/- The engine, part thirty-six: appending to the beginning of a row; cells of rows. Conditions: as part two. -/
namespace Go.Eng
open Go Go.RowKit

section
variable {P : Program} {tt : Nat → Option TI} [TT P tt] {ro : Option Nat} {N : Nat} {l rest : List Oper} {Q : Exit → Act → World → Prop} {E : List (Nat × Value)} {ds : List Deferred} {b : World} {F F0 G : List SP} {fl : Oper → Bool} {kk : Nat}
  {d : Nat} {op : Op} {ty : TypeId} {pos : String} {aft : Array Edge} {g : Option (Nat × Bool)} {v : Value}
theorem row_cell {e sz n c gg off k : Nat} {cs : List Value} {u : Value} (hk : nth F k = some (row e sz (.slice (some ⟨gg, off, none⟩) n c) n cs)) {j : Nat} (hj : cs[j]? = some u) : ∀ w, Sat b F w → w.cell? ⟨gg, off + j, none⟩ = some u := fun w H => by
  obtain ⟨A, c', hv, hl, _, _, _, hc⟩ := H.sl hk
  simp only [Value.slice.injEq, true_and] at hv
  obtain ⟨rfl, rfl⟩ := hv
  have hlt : j < cs.length := (List.getElem?_eq_some_iff.1 hj).1
  have h0 : 0 < n := by
    rcases Nat.eq_zero_or_pos n with h | h
    · subst h; rw [hl] at hlt; omega
    · exact h
  obtain ⟨bb, off', hA, _, hcell⟩ := hc h0
  cases hA
  rw [hcell j hlt, hj]
variable {k : Nat} {y dy tv : Nat} {zs : List Value} {oy : Oper}
end
end Go.Eng
/- The engine, part thirty-seven: built structs whose fields are arrays. Conditions: as part two. -/
namespace Go.Eng
open Go Go.RowKit

/-- Segments laid one behind the other. -/
def cat : List (List Value) → List Value
  | [] => []
  | [a] => a
  | a :: l => a ++ cat l
theorem cat_cons (a : List Value) (l : List (List Value)) : cat (a :: l) = a ++ cat l := by
  cases l with
  | nil => simp [cat]
  | cons b l => rfl
def segs (zs : List Value) : List (Nat × Nat) → List (List Value)
  | [] => []
  | (o, n) :: l => (zs.drop o).take n :: segs zs l
def setS : List (List Value) → Nat → List Value → List (List Value)
  | [], _, _ => []
  | _ :: l, 0, c => c :: l
  | a :: l, k + 1, c => a :: setS l k c
def okPl : Nat → List (Nat × Nat) → Nat → Bool
  | o, [], t => Nat.beq o t
  | o, (q, n) :: l, t => Nat.beq o q && okPl (o + n) l t
/-- The cells of a value. -/
def zc : Value → List Value
  | .agg ⟨cs⟩ => cs
  | v => [v]
theorem zc_eq (v : Value) : v.cells.toList = zc v := by cases v <;> rfl
def condS (pl : List (Nat × Nat)) : List (Nat × Value) → Prop
  | [] => True
  | (k, v) :: l => (match nth pl k with | some p => (zc v).length = p.2 | none => False) ∧ condS pl l
def fillS (s : List (List Value)) : List (Nat × Value) → List (List Value)
  | [] => s
  | (k, v) :: l => fillS (setS s k (zc v)) l
/-- The segments are as long as the places say, from o on. -/
def fits : Nat → List (Nat × Nat) → List (List Value) → Prop
  | _, [], [] => True
  | o, (q, n) :: pl, a :: s => o = q ∧ a.length = n ∧ fits (o + n) pl s
  | _, _, _ => False
theorem fits_segs {zs : List Value} : ∀ {pl : List (Nat × Nat)} {o t : Nat}, okPl o pl t = true → t = zs.length → fits o pl (segs zs pl) ∧ cat (segs zs pl) = zs.drop o
  | [], o, t, h, ht => by
    have := Nat.eq_of_beq_eq_true h
    exact ⟨trivial, by rw [segs, cat, List.drop_of_length_le (by omega)]⟩
  | (q, n) :: pl, o, t, h, ht => by
    simp only [okPl, Bool.and_eq_true] at h
    obtain ⟨h1, h2⟩ := h
    have := Nat.eq_of_beq_eq_true h1
    subst this
    obtain ⟨i1, i2⟩ := fits_segs h2 ht
    have hle : o + n ≤ t := by
      clear i1 i2 ht
      revert h2
      generalize o + n = m
      induction pl generalizing m with
      | nil => intro h2; have := Nat.eq_of_beq_eq_true h2; omega
      | cons p pl ih =>
        intro h2
        obtain ⟨q, n'⟩ := p
        simp only [okPl, Bool.and_eq_true] at h2
        have := ih _ h2.2; omega
    refine ⟨⟨rfl, by rw [List.length_take, List.length_drop]; omega, i1⟩, ?_⟩
    rw [segs, cat_cons, i2, ← List.drop_drop, List.take_append_drop]
theorem fits_set : ∀ {pl : List (Nat × Nat)} {s : List (List Value)} {o k : Nat} {p : Nat × Nat} {c : List Value}, fits o pl s → nth pl k = some p → c.length = p.2 → fits o pl (setS s k c) ∧ o ≤ p.1 ∧ spl (cat s) (p.1 - o) c = cat (setS s k c) ∧ (p.1 - o) + p.2 ≤ (cat s).length
  | [], _, _, _, _, _, _, h, _ => by simp [nth] at h
  | (q, n) :: pl, [], _, _, _, _, h, _, _ => h.elim
  | (q, n) :: pl, a :: s, o, 0, p, c, h, hp, hc => by
    obtain ⟨rfl, h2, h3⟩ := h
    simp only [nth, Option.some.injEq] at hp
    subst hp
    dsimp only at hc
    refine ⟨⟨rfl, hc, h3⟩, Nat.le_refl _, ?_, ?_⟩
    · simp only [setS, cat_cons, spl, Nat.sub_self, List.take_zero, List.nil_append, Nat.zero_add]
      rw [hc, ← h2, List.drop_left]
    · rw [cat_cons, List.length_append, h2, Nat.sub_self]; dsimp only; omega
  | (q, n) :: pl, a :: s, o, k + 1, p, c, h, hp, hc => by
    obtain ⟨rfl, h2, h3⟩ := h
    simp only [nth] at hp
    obtain ⟨i1, i2, i3, i4⟩ := fits_set h3 hp hc
    refine ⟨⟨rfl, h2, i1⟩, by omega, ?_, ?_⟩
    · simp only [setS, cat_cons, ← i3, spl]
      have e : p.1 - o = a.length + (p.1 - (o + n)) := by omega
      rw [e, List.take_append, List.take_of_length_le (by omega), Nat.add_sub_cancel_left, Nat.add_assoc, List.drop_append, List.drop_of_length_le (by omega), List.nil_append, Nat.add_sub_cancel_left, List.append_assoc]
    · rw [cat_cons, List.length_append]; omega
theorem fill_segs {pl : List (Nat × Nat)} : ∀ {vs : List (Nat × Value)} {s : List (List Value)}, fits 0 pl s → condS pl vs → fillL (nth pl) (cat s) vs = some (cat (fillS s vs))
  | [], _, _, _ => rfl
  | (k, v) :: vs, s, h, hc => by
    obtain ⟨h1, h2⟩ := hc
    cases hp : nth pl k with
    | none => rw [hp] at h1; exact h1.elim
    | some p =>
      rw [hp] at h1
      dsimp only at h1
      obtain ⟨i1, _, i3, i4⟩ := fits_set h hp h1
      rw [Nat.sub_zero] at i3 i4
      have e1 : v.cells.size = p.2 := by rw [← h1, ← zc_eq, Array.length_toList]
      obtain ⟨off, size⟩ := p
      dsimp only at *
      have b1 : Nat.beq v.cells.size size = true := by rw [e1]; exact Nat.beq_refl _
      have b2 : Nat.ble (off + size) (cat s).length = true := Nat.ble_eq_true_of_le i4
      simp only [fillL, hp, b1, b2, fillS]
      rw [zc_eq, i3]
      exact fill_segs i1 h2
def pevB (tt : Nat → Option TI) (E : List (Nat × Value)) : Op → Option (Prop × Value)
  | .build t ⟨parts⟩ => match tt t with
    | some ⟨.struct _, _, _, .agg ⟨zs⟩, fs⟩ => match places tt fs, evp E parts with
      | some pl, some vs => match okPl 0 pl zs.length with
        | true => some (condS pl vs, .agg ⟨cat (fillS (segs zs pl) vs)⟩)
        | false => none
      | _, _ => none
    | _ => none
  | _ => none
section
variable {P : Program} {tt : Nat → Option TI} [TT P tt] {ro : Option Nat} {N : Nat} {l rest : List Oper} {Q : Exit → Act → World → Prop} {E : List (Nat × Value)} {ds : List Deferred} {b : World} {F F0 G : List SP} {fl : Oper → Bool} {kk : Nat}
  {d : Nat} {op : Op} {ty : TypeId} {pos : String} {aft : Array Edge} {g : Option (Nat × Bool)} {v : Value}
theorem pevB_sound {c : Prop} (h : pevB tt E op = some (c, v)) (hc : c) : Pu P E op ty v := by
  apply pevb_sound (tt := tt)
  unfold pevB at h
  split at h
  · rename_i t parts
    split at h
    · rename_i n s1 s2 zs fs h1
      split at h
      · rename_i pl vs h2 h3
        split at h
        · rename_i h4
          simp only [Option.some.injEq, Prod.mk.injEq] at h
          obtain ⟨rfl, rfl⟩ := h
          obtain ⟨f1, f2⟩ := fits_segs (zs := zs) h4 rfl
          have := fill_segs f1 hc
          rw [f2, List.drop_zero] at this
          simp only [pevb, h1, h2, h3, this]
        · cases h
      · cases h
    · cases h
  · cases h
theorem sd_B {c : Prop} (hg : wants l E g = some true) (hx : pevB tt E op = some (c, v)) (hf : fl ⟨some d, op, ty, pos, aft, g⟩ = true) (hd : Nat.blt d N = true) (hc : c) (h : SD P fl ro N F0 l (kk + 1) rest Q ((d, v) :: E) ds b F) : SD P fl ro N F0 l kk (⟨some d, op, ty, pos, aft, g⟩ :: rest) Q E ds b F := sd_pu hg (pevB_sound hx hc) hf hd h
end
end Go.Eng
/- The engine, part thirty-seven: a piece whose innards are hidden: some s with p s, and the pieces G s. Conditions: none. -/
namespace Go.Eng
open Go Go.RowKit

def exP {S : Type} (p : S → Prop) (G : S → List SP) : SP := fun h => ∃ s, p s ∧ SatH (G s) h
section
variable {S : Type} {p : S → Prop} {G : S → List SP} {F : List SP} {b : World}
theorem exP_open {w : World} (H : Sat b (exP p G :: F) w) : ∃ s, p s ∧ Sat b (G s ++ F) w := by
  obtain ⟨K, a, b', c⟩ := H.mem
  obtain ⟨s, hs, hS⟩ := c 0 _ rfl
  refine ⟨s, hs, H.os, H.tape, H.output, ent_open _ ⟨K, a, b', fun i A hA => ?_⟩⟩
  cases i with
  | zero => cases hA; exact hS
  | succ i => exact c (i + 1) A hA
theorem ent_pack (s : S) (hs : p s) : Ent (G s ++ F) (exP p G :: F) := ent_close.trans (ent_set 0 rfl (fun _ hh => ⟨s, hs, hh⟩) rfl)
variable {P : Program} {f : FuncId} {args : List Value} {R R' : Value → List SP → Prop}
theorem SC.out (h : SC P f args b F R) (hr : ∀ v F', R v F' → ∃ G, Ent F' G ∧ R' v G) : SC P f args b F R' := fun w H => (h w H).mono fun _ _ ⟨v, F', h1, h2, h3⟩ => by
  obtain ⟨G, hG, hR⟩ := hr v F' h2
  exact ⟨v, G, h1, hR, h3.ent hG⟩
/-- What is known of memory when it is called. -/
theorem SC.know {q : Prop} (hq : ∀ w, Sat b F w → q) (h : q → SC P f args b F R) : SC P f args b F R := fun w H => h (hq w H) w H
end
section
variable {S : Type} {p : S → Prop} {G : S → List SP}
variable {P : Program} {ro : Option Nat} {N : Nat} {l rest : List Oper} {Q : Exit → Act → World → Prop} {E : List (Nat × Value)} {ds : List Deferred} {b : World} {F : List SP} {e : Exit} {c : Code}
theorem sw_opn (h : ∀ s, p s → SW P ro N c Q E ds b (G s ++ F)) : SW P ro N c Q E ds b (exP p G :: F) := ⟨fun w H => by
  obtain ⟨s, hs, H'⟩ := exP_open H
  exact (h s hs).1 w H'⟩
theorem sn_opn (h : ∀ s, p s → SN N Q e E ds b (G s ++ F)) : SN N Q e E ds b (exP p G :: F) := ⟨fun w H => by
  obtain ⟨s, hs, H'⟩ := exP_open H
  exact (h s hs).1 w H'⟩
end
end Go.Eng
/- The engine, part thirty-eight: more of regions that draw their order. Conditions: as part two. -/
namespace Go.Eng
open Go Go.RowKit

section
variable {P : Program} {tt : Nat → Option TI} [TT P tt] {ro : Option Nat} {N : Nat} {l rest : List Oper} {Q : Exit → Act → World → Prop} {E : List (Nat × Value)} {ds : List Deferred} {b : World} {F F0 : List SP} {fl : Oper → Bool} {kk : Nat}
  {d : Nat} {op : Op} {ty : TypeId} {pos : String} {aft : Array Edge} {g : Option (Nat × Bool)}
end
end Go.Eng
/- The engine, part thirty-nine: objects that are no cells; texts gone through rune by rune; calls that are deferred; ranges over a function, where memory is told piece by piece. Conditions: as part two. -/
namespace Go.Eng
open Go Go.RowKit

/-! ## Objects -/
def ob (g : Nat) (o : Obj) : SP := fun h => h g = some o
section
variable {b w w' : World} {F G : List SP} {k g : Nat} {o o' : Obj} {A : SP}
theorem Sat.ob (H : Sat b F w) (hk : nth F k = some (ob g o)) : w.heap[g]? = some o := by
  obtain ⟨h1, l, hA⟩ := H.mem.get hk
  exact l g o hA
theorem Sat.newOb (H : Sat b F w) (o : Obj) : Sat b (Go.Eng.ob w.heap.size o :: F) (w.alloc o) :=
  H.new (Fr.alloc w o) (one_le (h := ph _) (heap_alloc_new w o)) (fun i hi => by rw [one_ne hi]; exact Nat.le_refl _) (one_at _ _)
theorem Sat.putPi {B : SP} (H : Sat b F w) (hk : nth F k = some A) (hA : ∀ h, A h → h g ≠ none) (hB : ∀ h, h g = some o' → B h) (hG : setF F k B = some G) : Sat b G (w.putObj g o') := by
  refine H.upd k hk (Fr.putObj w g o') (fun h1 l hh => ?_) hG
  have hg := hA h1 hh
  have hlt : g < w.heap.size := by
    cases hx : h1 g with
    | none => exact absurd hx hg
    | some o => exact ph_lt (l g o hx)
  exact ⟨fun i _ hi => by subst hi; exact hg, _, one_le (h := ph (w.putObj g o')) (World.putObj_heap_same hlt), hB _ (one_at g _), fun i hi => .inl (by rw [one_ne hi]; exact hg)⟩
theorem Sat.putOb (H : Sat b F w) (hk : nth F k = some (Go.Eng.ob g o)) (hG : setF F k (Go.Eng.ob g o') = some G) : Sat b G (w.putObj g o') :=
  H.putPi hk (fun h hh => by rw [show h g = _ from hh]; simp) (fun h hh => hh) hG
/-- One piece laid ahead of the others, and back. -/
theorem ent_front (k : Nat) (hk : nth F k = some A) : ∃ F', Ent F (A :: F') ∧ ∀ B G, setF F k B = some G → Ent (B :: F') G := by
  have hs : ∀ (F : List SP) k A, nth F k = some A → ∃ F', setF F k (fun _ => True) = some F' := by
    intro F
    induction F with
    | nil => intro k A h; cases h
    | cons x F ih =>
      intro k A h
      cases k with
      | zero => exact ⟨_, rfl⟩
      | succ k => obtain ⟨F', hF'⟩ := ih k A h; exact ⟨x :: F', by simp only [setF, hF']⟩
  obtain ⟨F', hF'⟩ := hs F k A hk
  refine ⟨F', ?_, ?_⟩
  · rintro m ⟨H, a, b', c⟩
    refine ⟨fun j => match j with | 0 => H k | j + 1 => if j = k then fun _ => none else H j, fun i => ?_, fun i j hij => ?_, fun i C hC => ?_⟩
    · cases i with
      | zero => exact a k
      | succ i => dsimp only; split
                  · intro _ _ e; cases e
                  · exact a i
    · have key : ∀ j, apt (H k) ((fun j => if j = k then (fun _ => none : PH) else H j) j) := by
        intro j; dsimp only; split
        · exact fun _ => .inr rfl
        · rename_i hne; exact b' k j (Ne.symm hne)
      cases i with
      | zero => cases j with
        | zero => exact absurd rfl hij
        | succ j => exact key j
      | succ i => cases j with
        | zero => exact (key i).symm
        | succ j =>
          dsimp only; split
          · exact fun _ => .inl rfl
          · split
            · exact fun _ => .inr rfl
            · exact b' i j (by omega)
    · cases i with
      | zero => simp only [nth, Option.some.injEq] at hC; subst hC; exact c k A hk
      | succ i =>
        simp only [nth] at hC
        rw [setF_nth hF'] at hC
        dsimp only; split at hC
        · cases hC; trivial
        · rename_i hne; rw [if_neg hne]; exact c i C hC
  · intro B G hG
    rintro m ⟨H, a, b', c⟩
    refine ⟨fun j => if j = k then H 0 else H (j + 1), fun i => ?_, fun i j hij => ?_, fun i C hC => ?_⟩
    · dsimp only; split <;> exact a _
    · dsimp only; split
      · rename_i e1; split
        · rename_i e2; exact absurd (e1.trans e2.symm) hij
        · exact b' _ _ (by omega)
      · split
        · exact b' _ _ (by omega)
        · exact b' _ _ (by omega)
    · rw [setF_nth hG] at hC
      dsimp only; split at hC
      · rename_i e1; cases hC; rw [if_pos e1]; exact c 0 _ rfl
      · rename_i e1; rw [if_neg e1]
        exact c (i + 1) _ (by simp only [nth]; rw [setF_nth hF', if_neg e1]; exact hC)
end

/-! ## Texts gone through rune by rune -/
section
variable {P : Program} {tt : Nat → Option TI} [TT P tt] {ro : Option Nat} {N : Nat} {l rest : List Oper} {Q : Exit → Act → World → Prop} {E : List (Nat × Value)} {ds : List Deferred} {b : World} {F G : List SP}
  {d : Nat} {op : Op} {ty : TypeId} {pos : String} {aft : Array Edge} {g : Option (Nat × Bool)} {v : Value}
end

section
variable {P : Program} {tt : Nat → Option TI} [TT P tt] {N : Nat} {l rest : List Oper} {Q : Exit → Act → World → Prop} {E : List (Nat × Value)} {ds : List Deferred} {b w : World} {F G : List SP}
  {d : Nat} {op : Op} {ty : TypeId} {pos : String} {aft : Array Edge} {g : Option (Nat × Bool)} {v : Value}
end
section
variable {P : Program} {tt : Nat → Option TI} [TT P tt] {N : Nat} {E : List (Nat × Value)} {b : World} {F G : List SP} {fn : Func} {R : Value → List SP → Prop} {f : FuncId} {c : Code} {args : List Value}
/-- What a deferred call owes. -/
def SCD (P : Program) (f : FuncId) (args : List Value) (b : World) (F : List SP) (R : Value → List SP → Prop) : Prop :=
  ∀ w, Sat b F w → ∀ u, CallsDIn (FR none) 0 P f args.toArray u w fun e u' w' => u' = u ∧ PostS b R e w'
theorem SCD.ent {R : Value → List SP → Prop} (h : SCD P f args b G R) (he : Ent F G) : SCD P f args b F R := fun w H => h w (H.ent he)
theorem enterSM (hf : P.funcs[f]? = some fn) (hb : fn.body = some c) (hn : Nat.ble args.length fn.ntmps = true) {E : List (Nat × Value)} (hE : ents 0 args = E) (h : SW P none fn.ntmps c (bodyPostM (FR none) 0 P fn (PostS b R)) E [] b F) : SC P f args b F R :=
  fun w H => enterM hf hb hn (by rw [hE]; exact h.1 w H)
theorem leaves_res {rs : List ResultVar} {vs : List Value} {a : Act} {w : World} (hr : fn.results = ⟨rs⟩) (hv : Res tt E F rs vs) (he : Ent F G) (h : R (tupl vs) G) (hk : Kn N E a) (H : Sat b F w) : LeavesInM (FR none) 0 P fn a.tmps (PostS b R) [] .returning w := by
  refine ⟨tupl vs, ?_, _, _, rfl, h, H.ent he⟩
  have h2 := hv.run P H hk
  have h3 : (results fn a.tmps).run P w = (do let vs ← (⟨rs⟩ : Array ResultVar).mapM (rsem a.tmps); pure (if h : vs.size = 1 then vs[0] else .tuple vs) : Sem Value).run P w := by
    simp only [results, hr]
    rfl
  rw [h3, List.mapM_toArray]
  simp only [Sem.run_bind, Sem.run_pure, Result.andThen, Sem.run_map, h2]
  match vs with
  | [] => rfl
  | [v] => rfl
  | _ :: _ :: _ => rfl
/-- A function that holds a range over a function returns. -/
theorem sn_retM {rs : List ResultVar} {vs : List Value} {D k : Nat} {G0 : List SP} (hr : fn.results = ⟨rs⟩) (hD : nth F k = some (ob D (.deferred (some [])))) (hG : setF F k (ob D (.deferred none)) = some G0) (hv : Res tt E G0 rs vs) (he : Ent G0 G) (h : R (tupl vs) G) :
    SN N (bodyPostM (FR none) 0 P fn (PostS b R)) .ret E [markOf D] b F := by
  constructor
  intro w H a hk hd
  show LeavesInM (FR none) 0 P fn a.tmps (PostS b R) a.defers .returning w
  rw [hd]
  exact ⟨by simp, .inl ⟨D, _, rfl, run_takeDeferred (H.ob hD), leaves_res hr hv he h hk (H.putOb hD hG)⟩⟩
end

/-! ## A range over a function -/
/-- The loop's record, ready; what it holds of the function's slots. -/
def lpP (m : Nat) (st : LoopState) (ps : Array Tmp) (asg body : Code) (N : Nat) (E : List (Nat × Value)) : SP := fun h => ∃ r : Loop, h m = some (.loop r) ∧ r.state = st ∧ r.pending = none ∧ r.params = ps ∧ r.assign = asg ∧ r.body = body ∧ Kn N E ⟨r.tmps, []⟩
/-- A yield, as whoever calls it sees it: J: what was yielded so far. -/
def YieldS (P : Program) (m : Nat) (b : World) (ok : List (List Value) → List Value → Prop) (J : List (List Value) → SP) : Prop :=
  ∀ xs vs F w, ok xs vs → Sat b (J xs :: F) w → Yld P m vs.toArray w fun e w' => e = .returned (.bool true) ∧ Sat b (J (xs ++ [vs]) :: F) w'
section
variable {P : Program} {ro : Option Nat} {N : Nat} {l rest : List Oper} {Q : Exit → Act → World → Prop} {E : List (Nat × Value)} {ds : List Deferred} {b : World} {F G : List SP}
  {d : Nat} {op : Op} {ty : TypeId} {pos : String} {aft : Array Edge} {g : Option (Nat × Bool)} {v : Value}
  {ok : List (List Value) → List Value → Prop} {J : List (List Value) → SP}
theorem so_yield {m : Nat} {vs : List Value} {xs : List (List Value)} (k : Nat) (hY : YieldS P m b ok J) (hg : wants l E g = some true) (hx : yieldOf E op = some (m, vs)) (hd : Nat.blt d N = true) (hF : nth F k = some (J xs)) (hok : ok xs vs) (hG : setF F k (J (xs ++ [vs])) = some G)
    (h : SO P ro N l rest Q ((d, .bool true) :: E) ds b G) : SO P ro N l (⟨some d, op, ty, pos, aft, g⟩ :: rest) Q E ds b F := ⟨fun w H => by
  obtain ⟨F', h1, h2⟩ := ent_front k hF
  exact ow_yield hg hx hd ((hY xs vs F' w hok (H.ent h1)).mono fun e w' ⟨he, H'⟩ => ⟨_, he, h.1 w' (H'.ent (h2 _ _ hG))⟩)⟩
variable {m : Nat} {ps : Array Tmp} {asg body : Code} {R : Ending → World → Prop}
theorem sn_asg {E0 : List (Nat × Value)} (h : SW P (some m) N body (roundPost P m R) E ds b (lpP m .busy ps asg body N E0 :: F)) : SN N (Asg P m body R) .normal E ds b (lpP m .ready ps asg body N E0 :: F) := by
  constructor
  intro w H
  obtain ⟨h1, l1, r, hr, hst, hp, h2, h3, h4, h5⟩ := H.mem.get (k := 0) rfl
  refine pn_asg (l1 m _ hr) hst (h.1 _ (H.putPi (k := 0) rfl (fun h ⟨r', hr', _⟩ => by rw [hr']; simp) (fun h hh => ⟨_, hh, rfl, hp, h2, h3, h4, h5⟩) rfl))
theorem sn_round_go {E0 : List (Nat × Value)} (h : ∀ w, Sat b (lpP m .ready ps asg body N E0 :: F) w → R (.returned (.bool true)) w) : SN N (roundPost P m R) .normal E ds b (lpP m .busy ps asg body N E0 :: F) := by
  constructor
  intro w H
  obtain ⟨h1, l1, r, hr, hst, hp, h2, h3, h4, h5⟩ := H.mem.get (k := 0) rfl
  exact pn_round_go (l1 m _ hr) (h _ (H.putPi (k := 0) rfl (fun h ⟨r', hr', _⟩ => by rw [hr']; simp) (fun h hh => ⟨_, hh, rfl, rfl, h2, h3, h4, h5⟩) rfl))
end
section
variable {P : Program} {N : Nat} {Q : Exit → Act → World → Prop} {E : List (Nat × Value)} {ds : List Deferred} {b : World} {F : List SP}
theorem sw_rangeFunc {go : Operand} {ps : Array Tmp} {asg body : Code} {gf : FuncId} {caps : List Value} (hg : ev E go = some (.func (.func gf) ⟨[]⟩ ⟨caps⟩)) [Bodied P gf] (ok : List (List Value) → List Value → Prop) (Fg : List (List Value) → List SP) (F1 : List SP) (T : List (List Value) → List SP → Prop)
    (he : Ent F (Fg [] ++ F1)) (hps : ps.toList.all (fun p => Nat.blt p N) = true) (hok : ∀ xs vs, ok xs vs → vs.length = ps.size)
    (hb : ∀ m D xs vs F0 R, ok xs vs → (∀ w, Sat b (lpP m .ready ps asg body N E :: ob D (.deferred (some [])) :: (Fg (xs ++ [vs]) ++ F0)) w → R (.returned (.bool true)) w) →
      SW P (some m) N asg (Asg P m body R) (ezip ps.toList vs E) [] b (lpP m .ready ps asg body N E :: ob D (.deferred (some [])) :: (Fg xs ++ F0)))
    (hgf : ∀ m J, YieldS P m b ok J → SC P gf (.func (.yield m) ⟨[]⟩ ⟨[]⟩ :: caps) b (J [] :: F1) (fun _ F' => ∃ xs F2, F' = J xs :: F2 ∧ T xs F2))
    (h : ∀ D xs F2, T xs F2 → SN N Q .normal E (markOf D :: ds) b (ob D (.deferred (some [])) :: (Fg xs ++ F2))) : SW P none N (.rangeFunc go ps asg body) Q E ds b F := by
  constructor
  intro w H
  refine cw_rangeFunc hg ?_
  intro r h1 h2 h3 h4 h5 h6 h7
  let m := w.heap.size + 1
  let D := w.heap.size
  let J : List (List Value) → SP := fun xs => all (lpP m .ready ps asg body N E :: ob D (.deferred (some [])) :: Fg xs)
  have hY : YieldS P m b ok J := by
    intro xs vs F0 w1 ho H1
    have H2 : Sat b (lpP m .ready ps asg body N E :: ob D (.deferred (some [])) :: (Fg xs ++ F0)) w1 := H1.ent ent_open
    obtain ⟨hh, l1, r1, hr1, e1, e2, e3, e4, e5, e6⟩ := H2.mem.get (k := 0) rfl
    refine yield_of (N := N) (E := E) (l1 m _ hr1) (by rw [e3]; exact hok _ _ ho) (fun p hp => ?_) e6 ?_
    · rw [e3] at hp
      have := List.all_eq_true.1 hps p hp
      exact Nat.le_of_ble_eq_true this
    · rw [e3, e4, e5]
      exact (hb m D xs vs F0 _ ho (fun w2 H3 => ⟨rfl, H3.ent (ent_close (G := _ :: _ :: Fg (xs ++ [vs])))⟩)).1 w1 H2
  have H0 : Sat b (J [] :: F1) ((w.alloc (.deferred (some []))).alloc (.loop r)) := by
    have a1 := (H.ent he).newOb (.deferred (some []))
    have a2 := a1.newOb (.loop r)
    have a3 : Sat b (lpP m .ready ps asg body N E :: ob D (.deferred (some [])) :: (Fg [] ++ F1)) ((w.alloc (.deferred (some []))).alloc (.loop r)) :=
      a2.ent (ent_set 0 rfl (fun hh hx => ⟨r, by simpa [m, ob] using hx, h1, h2, h3, h4, h5, h7⟩) rfl)
    exact a3.ent (ent_close (G := _ :: _ :: Fg []))
  refine (hgf m J hY _ H0).mono ?_
  rintro e w3 ⟨v, F', rfl, ⟨xs, F2, rfl, hT⟩, H3⟩
  have H4 : Sat b (lpP m .ready ps asg body N E :: ob D (.deferred (some [])) :: (Fg xs ++ F2)) w3 := H3.ent ent_open
  obtain ⟨hh, l1, r1, hr1, e1, e2, e3, e4, e5, e6⟩ := H4.mem.get (k := 0) rfl
  refine ⟨⟨v, rfl⟩, r1, l1 m _ hr1, by rw [e1]; simp, ?_⟩
  rw [e2]
  have H5 : Sat b (lpP m .exhausted ps asg body N E :: ob D (.deferred (some [])) :: (Fg xs ++ F2)) (w3.putObj m (.loop { r1 with state := .exhausted })) :=
    H4.putPi (k := 0) rfl (fun h ⟨r', hr', _⟩ => by rw [hr']; simp) (fun h hh => ⟨_, hh, rfl, e2, e3, e4, e5, e6⟩) rfl
  rw [e2] at H5
  exact (h D xs F2 hT).1 _ (H5.ent (ent_keep 1 [] rfl rfl))
end
end Go.Eng
/- The engine, part forty: rows opened to the block they lie in; appending in place. Conditions: as part two. -/
namespace Go.Eng
open Go Go.RowKit

section
variable {P : Program} {tt : Nat → Option TI} [TT P tt] {ro : Option Nat} {N : Nat} {l rest : List Oper} {Q : Exit → Act → World → Prop} {E : List (Nat × Value)} {ds : List Deferred} {b : World} {F F0 G : List SP} {fl : Oper → Bool} {kk : Nat}
  {d : Nat} {op : Op} {ty : TypeId} {pos : String} {aft : Array Edge} {g : Option (Nat × Bool)} {v : Value}
end
section
variable {b : World} {F G : List SP} {e sz n g off cap : Nat} {cs : List Value}
end
end Go.Eng
/- The engine, part forty-one: cells one behind the other; arguments that are structs and lists of structs. Conditions: none. -/
namespace Go.Eng
open Go Go.RowKit Go.WideMaps

theorem i64wf (x : Int) : (Lit.int .i64 x).wf = true ↔ I64 x := by
  have h1 : IntKind.i64.min = -9223372036854775808 := by decide
  have h2 : IntKind.i64.max = 9223372036854775807 := by decide
  simp [Lit.wf, h1, h2, I64]
/-- Cells one behind the other. -/
def flC {α : Type} (f : α → List Value) : List α → List Value
  | [] => []
  | a :: l => f a ++ flC f l
section
variable {α : Type} {f : α → List Value} {l : List α} {sz : Nat}
theorem flC_app (a c : List α) : flC f (a ++ c) = flC f a ++ flC f c := by
  induction a with
  | nil => rfl
  | cons x a ih => simp only [List.cons_append, flC, ih, List.append_assoc]
theorem flC_len (h : ∀ a ∈ l, (f a).length = sz) : (flC f l).length = l.length * sz := by
  induction l with
  | nil => simp [flC]
  | cons x l ih =>
    have h1 := h x List.mem_cons_self
    have h2 := ih fun w hw => h w (List.mem_cons_of_mem _ hw)
    simp only [flC, List.length_append, h1, h2, List.length_cons, Nat.succ_mul]; omega
theorem flC_at (h : ∀ a ∈ l, (f a).length = sz) {i : Nat} (hi : i < l.length) {j : Nat} (hj : j < sz) : (flC f l)[i * sz + j]? = (f l[i])[j]? := by
  induction l generalizing i with
  | nil => simp at hi
  | cons x l ih =>
    have h1 := h x List.mem_cons_self
    cases i with
    | zero => simp only [flC, Nat.zero_mul, Nat.zero_add, List.getElem_cons_zero]; exact List.getElem?_append_left (by omega)
    | succ i =>
      simp only [flC, List.getElem_cons_succ]
      rw [List.getElem?_append_right (by rw [h1, Nat.succ_mul]; omega), h1, Nat.succ_mul, show i * sz + sz + j - sz = i * sz + j by omega]
      exact ih (fun w hw => h w (List.mem_cons_of_mem _ hw)) (by simpa using hi)
theorem flC_seg (h : ∀ a ∈ l, (f a).length = sz) {i : Nat} (hi : i < l.length) : ((flC f l).drop (i * sz)).take sz = f l[i] := by
  apply List.ext_getElem?
  intro j
  rw [List.getElem?_take, List.getElem?_drop]
  have h1 := h _ (List.getElem_mem hi)
  split
  · rename_i hj; exact flC_at h hi hj
  · rename_i hj; rw [List.getElem?_eq_none (by omega)]
theorem flC_set (h : ∀ a ∈ l, (f a).length = sz) {i : Nat} {x : α} (hx : (f x).length = sz) (hi : i < l.length) : spl (flC f l) (i * sz) (f x) = flC f (l.set i x) := by
  induction l generalizing i with
  | nil => simp at hi
  | cons y l ih =>
    have h1 := h y List.mem_cons_self
    cases i with
    | zero =>
      simp only [List.set_cons_zero, flC, spl, Nat.zero_mul, List.take_zero, List.nil_append, Nat.zero_add, hx]
      rw [List.drop_append_of_le_length (by omega), List.drop_of_length_le (by omega), List.nil_append]
    | succ i =>
      have := ih (fun w hw => h w (List.mem_cons_of_mem _ hw)) (by simpa using hi)
      simp only [List.set_cons_succ, flC, ← this, spl]
      rw [Nat.succ_mul, show i * sz + sz = (f y).length + i * sz by omega, List.take_length_add_append, show (f y).length + i * sz + (f x).length = (f y).length + (i * sz + (f x).length) by omega, List.drop_length_add_append, List.append_assoc]
theorem sl_cell {w : World} {bk off n c j : Nat} {cs : List Value} (h : SL w sz (.slice (some ⟨bk, off, none⟩) n c) n cs) (hj : j < cs.length) : w.cell? ⟨bk, off + j, none⟩ = cs[j]? := by
  obtain ⟨A, c', hv, hl, _, _, _, hc⟩ := h
  cases hv
  obtain ⟨b', o', hA, _, hcc⟩ := hc (by
    rcases Nat.eq_zero_or_pos n with h0 | h0
    · subst h0; simp at hl; subst hl; simp at hj
    · exact h0)
  cases hA
  exact hcc j hj
theorem fl_cell {w : World} {bk off c i j : Nat} (h : SL w sz (.slice (some ⟨bk, off, none⟩) l.length c) l.length (flC f l)) (hf : ∀ a ∈ l, (f a).length = sz) (hi : i < l.length) (hj : j < sz) : w.cell? ⟨bk, off + i * sz + j, none⟩ = (f l[i])[j]? := by
  rw [Nat.add_assoc, sl_cell h, flC_at hf hi hj]
  rw [flC_len hf]
  have : (i + 1) * sz ≤ l.length * sz := Nat.mul_le_mul_right _ hi
  rw [Nat.succ_mul] at this; omega
end
theorem segO_front {l : List Value} (m : List Value) {n : Nat} (h : l.length = n) : segO (l ++ m) 0 n = some l := by
  subst h
  induction l with
  | nil => cases m <;> rfl
  | cons a l ih => simp only [List.cons_append, List.length_cons, segO, ih]
theorem flat_fl {α β : Type} {g : α → β} {f : β → List Value} : ∀ {ess : List (List Value)} {xs : List α}, ess.length = xs.length → (∀ (i : Nat) e a, ess[i]? = some e → xs[i]? = some a → e = f (g a)) → ess.flatten = flC f (xs.map g)
  | [], [], _, _ => rfl
  | [], _ :: _, h, _ => by simp at h
  | _ :: _, [], h, _ => by simp at h
  | e :: ess, a :: xs, h, hh => by
    rw [List.flatten_cons, hh 0 e a rfl rfl, flat_fl (by simpa using h) fun i e a h1 h2 => hh (i + 1) e a h1 h2]; rfl
theorem rdL_flat {α β : Type} {R : Rdg α} {g : α → β} {f : β → List Value} {p : β → Prop} {W : World} (hR : ∀ cs x, R W cs x → cs = f (g x) ∧ p (g x)) {sz : Nat} {cs : List Value} {x : Value × List α} (h : rdL sz R W cs x) : cs = [x.1] ∧ SL W sz x.1 (x.2.map g).length (flC f (x.2.map g)) ∧ ∀ y ∈ x.2.map g, p y := by
  obtain ⟨hv, ess, e1, e2, e3, e4⟩ := h
  have hf := flat_fl (f := f) (g := g) e1 fun i e a h1 h2 => (hR e a (e4 i e a h1 h2)).1
  rw [hf] at e3
  refine ⟨hv, by rw [List.length_map]; exact e3, fun y hy => ?_⟩
  obtain ⟨a, ha, rfl⟩ := List.mem_map.1 hy
  obtain ⟨i, hi, rfl⟩ := List.mem_iff_getElem.1 ha
  exact (hR _ _ (e4 i _ _ (List.getElem?_eq_getElem (by omega)) (List.getElem?_eq_getElem hi))).2
theorem rdI_list {W : World} {k : IntKind} {cs : List Value} {x : Value × List Int} (h : rdL 1 (rdI k) W cs x) : cs = [x.1] ∧ VL (Value.int k) W x.1 x.2 ∧ ∀ n ∈ x.2, (Lit.int k n).wf = true := by
  obtain ⟨h1, h2, h3⟩ := rdL_flat (g := id) (f := fun n => [Value.int k n]) (p := fun n => (Lit.int k n).wf = true) (fun cs x hx => ⟨hx.1, hx.2⟩) h
  rw [List.map_id] at h2 h3
  have e : ∀ l : List Int, flC (fun x : Int => [Value.int k x]) l = l.map (Value.int k) := fun l => by
    induction l with
    | nil => rfl
    | cons x l ih => simp only [flC, ih]; rfl
  rw [e] at h2
  exact ⟨h1, h2, h3⟩
theorem i64wf' {x : Int} (h : (Lit.int .i64 x).wf = true) : I64 x := (i64wf x).1 h
theorem cut_eq {n : Nat} {cs a c : List Value} (h1 : cs.take n = a) (h2 : cs.drop n = c) : cs = a ++ c := by rw [← h1, ← h2, List.take_append_drop]
end Go.Eng
/- The engine, part forty-two: a drawn region cut in two, where what the second part rests on is chosen in between. Conditions: none. -/
namespace Go.Eng
open Go Go.RowKit

section
variable {P : Program} {ro : Option Nat} {l : List Oper} {Q : Exit → Act → World → Prop} {S : World → Prop} {fl : Oper → Bool}
end
section
variable {P : Program} {ro : Option Nat} {l : List Oper} {Q : Exit → Act → World → Prop} {N : Nat} {E : List (Nat × Value)} {ds : List Deferred} {w : World} {b : World} {F : List SP} {fl : Oper → Bool}
theorem fc_nf {n : Nat} {C : List Nat} {rest : List Oper} {E0 : List (Nat × Value)} {F0 : List SP} {D D' : List FD} (e : D = D') (h : FC P fl ro N n C l E0 ds b F F0 Q D' rest) : FC P fl ro N n C l E0 ds b F F0 Q D rest := e ▸ h
end
end Go.Eng
/- The engine, part forty-three: a function that holds a range over a function ends; the end of a row is cleared; a map is cleared. Conditions: none. -/
namespace Go.Eng
open Go Go.RowKit

section
variable {P : Program} {tt : Nat → Option TI} [TT P tt] {N : Nat} {E : List (Nat × Value)} {b : World} {F G : List SP} {fn : Func} {R : Value → List SP → Prop}
theorem sn_endM {rs : List ResultVar} {vs : List Value} {D k : Nat} {G0 : List SP} (hr : fn.results = ⟨rs⟩) (hD : nth F k = some (ob D (.deferred (some [])))) (hG : setF F k (ob D (.deferred none)) = some G0) (hv : Res tt E G0 rs vs) (he : Ent G0 G) (h : R (tupl vs) G) :
    SN N (bodyPostM (FR none) 0 P fn (PostS b R)) .normal E [markOf D] b F := by
  constructor
  intro w H a hk hd
  exact (sn_retM hr hD hG hv he h).1 w H a hk hd
end

section
variable {P : Program} {tt : Nat → Option TI} [TT P tt] {ro : Option Nat} {N : Nat} {l rest : List Oper} {Q : Exit → Act → World → Prop} {E : List (Nat × Value)} {ds : List Deferred} {b : World} {F G : List SP}
  {d : Nat} {op : Op} {ty : TypeId} {pos : String} {aft : Array Edge} {g : Option (Nat × Bool)} {v : Value}
theorem zeroCells_one {zs : Array Value} (h : ∀ u ∈ zs.toList, u.oneCell' = true) (n : Nat) : ∀ u ∈ (Builtin.zeroCells zs n).toList, u.oneCell' = true := by
  intro u hu
  unfold Builtin.zeroCells at hu
  simp only [Array.toList_map, List.mem_map, Array.mem_toList_iff, Array.mem_range] at hu
  obtain ⟨i, hi, rfl⟩ := hu
  have h0 : 0 < zs.size := by
    rcases Nat.eq_zero_or_pos zs.size with h0 | h0
    · rw [h0, Nat.mul_zero] at hi; omega
    · exact h0
  have hlt := Nat.mod_lt i h0
  rw [getElem!_pos zs _ hlt]
  exact h _ (by simp)
/-- The end of a row is cleared: what is left of it. -/
theorem ex_clearRow {t e g' off n cap j sz c' s1 s2 : Nat} {z1 : Value} {f1 : List (Nat × Nat)} {i : TI} {zs : List Value} {A' : Option Addr} {x : Operand} {cs : List Value} (k : Nat) (ht : tt t = some ⟨.slice e, s1, s2, z1, f1⟩) (he : tt e = some i) (hz : zlist i.zero = some zs) (hsz : Nat.beq zs.length sz = true) (hz1 : zs.all (·.oneCell') = true)
    (hx : ev E x = some (.slice A' (n - j) c')) (hA : j < n → A' = some ⟨g', off + j * sz, none⟩) (hj : j ≤ n) (hF : nth F k = some (row e sz (.slice (some ⟨g', off, none⟩) n cap) n cs)) (hG : setF F k (row e sz (.slice (some ⟨g', off, none⟩) j cap) j (cs.take (j * sz))) = some G) :
    ∀ w, Sat b F w → ∃ w' u, Ex P E (.call ⟨.builtin .clear, ⟨[x]⟩, ⟨[t]⟩⟩) ty w u w' ∧ Sat b G w' := fun w H => by
  have hs := Nat.eq_of_beq_eq_true hsz
  subst hs
  have hzc := zlist_eq hz
  have hzs : i.zero.cells.size = zs.length := by rw [← hzc, Array.length_toList]
  have hrun : ∃ w' u, (Builtin.clear_ #[t] ty #[.slice A' (n - j) c']).run P w = .ok u w' ∧ Sat b G w' := by
    rcases Nat.lt_or_ge j n with h | h
    · obtain rfl := hA h
      obtain ⟨h1, l, hAA⟩ := H.mem.get hF
      obtain ⟨hl, ⟨hv, _⟩ | ⟨g2, off2, cap2, cur, hv, hh, h2, h3, h4, h5⟩⟩ := hAA
      · cases hv
      simp only [Value.slice.injEq, Option.some.injEq, Addr.mk.injEq, true_and, and_true] at hv
      obtain ⟨⟨rfl, rfl⟩, rfl⟩ := hv
      have hw : w.heap[g']? = some (.cells cur e (0, 0)) := l _ _ hh
      have hcl : n * zs.length ≤ cap * zs.length := Nat.mul_le_mul_right _ h2
      have hjn : j * zs.length + (n - j) * zs.length = n * zs.length := by rw [← Nat.add_mul]; congr 1; omega
      have hzl : (Builtin.zeroCells i.zero.cells (n - j)).toList.length = (n - j) * zs.length := by simp [Builtin.zeroCells, hzs]
      have hst := run_storeCells_at P g' (off + j * zs.length) e (Builtin.zeroCells i.zero.cells (n - j)).toList 0 cur w hw (by omega) (zeroCells_one (by rw [hzc]; exact fun u hu => List.all_eq_true.1 hz1 u hu) _)
      simp only [Nat.add_zero] at hst
      obtain ⟨m, hm⟩ : ∃ m, n - j = m + 1 := ⟨n - j - 1, by omega⟩
      obtain ⟨rw1, hrw⟩ : ∃ R : List Value, R = cur.toList.take (off + j * zs.length) ++ (Builtin.zeroCells i.zero.cells (n - j)).toList ++ cur.toList.drop (off + j * zs.length + (Builtin.zeroCells i.zero.cells (n - j)).toList.length) := ⟨_, rfl⟩
      rw [← hrw] at hst
      refine ⟨w.setRow g' rw1.toArray, .tuple #[], ?_, H.upd (B := row e zs.length (.slice (some ⟨g', off, none⟩) j cap) j (cs.take (j * zs.length))) k hF (Fr.setRow w g' _) (fun h4' l4 hA4 => ?_) hG⟩
      · have hzr := TT.run_zero (P := P) he w
        rw [hm] at hst ⊢
        simp [Builtin.clear_, run_underlying (TT.und (P := P) t _ ht rfl), hzr, hst]
      · have h4g : h4' g' = some (.cells cur e (0, 0)) := by
          rcases hA4.2 with ⟨hv4, _⟩ | ⟨g5, off5, cap5, cur5, hv5, hh5, _⟩
          · cases hv4
          · simp only [Value.slice.injEq, Option.some.injEq, Addr.mk.injEq] at hv5
            obtain ⟨⟨rfl, _⟩, _⟩ := hv5
            have := (l4 _ _ hh5).symm.trans hw
            rw [hh5]; exact this
        refine ⟨fun q _ hq => by subst hq; rw [h4g]; simp, _, one_le (h := ph _) (setRow_heap w g' cur _ e _ hw), ⟨by rw [List.length_take, hl]; exact Nat.min_eq_left (Nat.mul_le_mul_right _ hj), .inr ⟨g', off, cap, _, rfl, one_at g' _, by omega, h3, ?_, ?_⟩⟩, fun q hq => .inl (by rw [one_ne hq, h4g]; simp)⟩
        · rw [hrw]
          simp only [List.size_toArray, List.length_append, List.length_take, List.length_drop, Array.length_toList]
          omega
        · have hcur : cur.toList.length = cur.size := Array.length_toList
          rw [hrw]
          show ((cur.toList.take (off + j * zs.length) ++ _ ++ _).drop off).take (j * zs.length) = _
          rw [List.append_assoc, List.drop_append_of_le_length (by rw [List.length_take]; omega), List.drop_take, Nat.add_sub_cancel_left, List.take_append_of_le_length (by rw [List.length_take, List.length_drop]; omega), List.take_take, Nat.min_self, ← h5, List.take_take]
          congr 1; omega
    · have hjn : n - j = 0 := by omega
      rw [hjn]
      refine ⟨w, .tuple #[], by cases A' <;> simp [Builtin.clear_, run_underlying (TT.und (P := P) t _ ht rfl)], ?_⟩
      exact H.ent (ent_row_take hj k hF hG)
  obtain ⟨w', u, h1, h2⟩ := hrun
  refine ⟨w', u, ?_, h2⟩
  intro ρ o hρ ho hty
  subst hty
  simp only [execOp, ho, resolve, invoke, builtin, Sem.run_bind, Sem.run_pure, Result.andThen]
  have e1 : Array.map ρ #[x] = #[.slice A' (n - j) c'] := by simp [hρ _ _ hx]
  simp only [e1, h1]
theorem so_clearRow {t e g' off n cap j sz c' s1 s2 : Nat} {z1 : Value} {f1 : List (Nat × Nat)} {i : TI} {zs : List Value} {A' : Option Addr} {x : Operand} {cs : List Value} (k : Nat) (hg : wants l E g = some true) (hop : op = .call ⟨.builtin .clear, ⟨[x]⟩, ⟨[t]⟩⟩) (ht : tt t = some ⟨.slice e, s1, s2, z1, f1⟩) (he : tt e = some i) (hz : zlist i.zero = some zs) (hsz : Nat.beq zs.length sz = true) (hz1 : zs.all (·.oneCell') = true)
    (hx : ev E x = some (.slice A' (n - j) c')) (hF : nth F k = some (row e sz (.slice (some ⟨g', off, none⟩) n cap) n cs)) (hG : setF F k (row e sz (.slice (some ⟨g', off, none⟩) j cap) j (cs.take (j * sz))) = some G) (hA : j < n → A' = some ⟨g', off + j * sz, none⟩) (hj : j ≤ n)
    (h : SO P ro N l rest Q E ds b G) : SO P ro N l (⟨none, op, ty, pos, aft, g⟩ :: rest) Q E ds b F := by
  subst hop; exact so_exn hg (ex_clearRow k ht he hz hsz hz1 hx hA hj hF hG) h
/-- A map is cleared. -/
theorem ex_clearMap {α : Type} {K : α → Value} {ok : α → Prop} {L : List (α × Value)} {t k e s1 s2 gm q : Nat} {z1 : Value} {f1 : List (Nat × Nat)} {m : Operand} (ht : tt t = some ⟨.map k e, s1, s2, z1, f1⟩) (hm : ev E m = some (.map (some gm))) (hF : nth F q = some (mp gm K ok L)) (hG : setF F q (mp gm K ok []) = some G) :
    ∀ w, Sat b F w → ∃ w' u, Ex P E (.call ⟨.builtin .clear, ⟨[m]⟩, ⟨[t]⟩⟩) ty w u w' ∧ Sat b G w' := fun w H => by
  obtain ⟨es, clock, h1, h2, h3, h4⟩ := H.mp hF
  refine ⟨w.putObj gm (.map #[] clock), .tuple #[], ?_, ?_⟩
  · intro ρ o hρ ho hty
    subst hty
    simp only [execOp, ho, resolve, invoke, builtin, Sem.run_bind, Sem.run_pure, Result.andThen]
    have e1 : Array.map ρ #[m] = #[.map (some gm)] := by simp [hρ _ _ hm]
    simp only [e1]
    simp [Builtin.clear_, run_underlying (TT.und (P := P) t _ ht rfl), getObj, setObj, Sem.run, h1, World.putObj]
  · exact H.putPi hF (fun h ⟨es', c', e1, _⟩ => by rw [e1]; simp) (fun h hh => ⟨#[], clock, hh, rfl, fun x hx => (by simp at hx), ⟨fun x hx => (by simp at hx), by simp, by simp⟩⟩) hG
theorem so_clearMap {α : Type} {K : α → Value} {ok : α → Prop} {L : List (α × Value)} {t k e s1 s2 gm : Nat} {z1 : Value} {f1 : List (Nat × Nat)} {m : Operand} (q : Nat) (hg : wants l E g = some true) (hop : op = .call ⟨.builtin .clear, ⟨[m]⟩, ⟨[t]⟩⟩) (ht : tt t = some ⟨.map k e, s1, s2, z1, f1⟩) (hm : ev E m = some (.map (some gm))) (hF : nth F q = some (mp gm K ok L)) (hG : setF F q (mp gm K ok []) = some G)
    (h : SO P ro N l rest Q E ds b G) : SO P ro N l (⟨none, op, ty, pos, aft, g⟩ :: rest) Q E ds b F := by
  subst hop; exact so_exn hg (ex_clearMap ht hm hF hG) h
end

section
variable {P : Program} {tt : Nat → Option TI} [TT P tt] {ro : Option Nat} {N : Nat} {l rest : List Oper} {Q : Exit → Act → World → Prop} {E : List (Nat × Value)} {ds : List Deferred} {b : World} {F F0 G : List SP} {fl : Oper → Bool} {kk : Nat}
  {d : Nat} {op : Op} {ty : TypeId} {pos : String} {aft : Array Edge} {g : Option (Nat × Bool)} {v : Value}
end
end Go.Eng
/- The engine, part forty-four: a slice literal of two elements of several cells. Conditions: none. -/
namespace Go.Eng
open Go Go.RowKit

section
variable {P : Program} {tt : Nat → Option TI} [TT P tt] {fl : Oper → Bool} {ro : Option Nat} {N d kk : Nat} {l rest : List Oper} {Q : Exit → Act → World → Prop} {E : List (Nat × Value)} {ds : List Deferred} {b : World} {F F0 : List SP} {op : Op} {ty : TypeId} {pos : String} {aft : Array Edge} {g : Option (Nat × Bool)} {v u : Value}
theorem ex_lit2 {t e s1 s2 : Nat} {z1 : Value} {f1 : List (Nat × Nat)} {i : TI} {x y : Operand} {cs us : List Value} {w : World} (ht : tt t = some ⟨.slice e, s1, s2, z1, f1⟩) (he : tt e = some i) (hx : ev E x = some v) (hy : ev E y = some u) (hz : zlist v = some cs) (hzu : zlist u = some us) (hl : cs.length = i.size) (hlu : us.length = i.size) (hs : 2 * i.size ≤ 16777216) :
    Ex P E (.buildSlice t 2 ⟨[(0, x), (1, y)]⟩) ty w (.slice (some ⟨w.heap.size, 0, none⟩) 2 2) (w.alloc (.cells (cs ++ us).toArray e)) := by
  have hc := zlist_eq hz
  have hu := zlist_eq hzu
  refine ex_buildSlice ht he (vs := [(0, v), (1, u)]) (by simp [hx, hy]) rfl (by omega) fun z hz' => ?_
  have h1 : Nat.beq v.cells.size i.size = true := by
    have : v.cells.size = i.size := by rw [← hl, ← hc]; simp
    rw [this]; exact Nat.beq_refl _
  have h1u : Nat.beq u.cells.size i.size = true := by
    have : u.cells.size = i.size := by rw [← hlu, ← hu]; simp
    rw [this]; exact Nat.beq_refl _
  have h2 : Nat.ble i.size z.length = true := Nat.ble_eq_true_of_le (by omega)
  have e1 : spl z 0 cs = cs ++ z.drop i.size := by simp [spl, hl]
  have e2 : spl (cs ++ z.drop i.size) i.size us = cs ++ us := by
    rw [spl, ← hl, List.take_left, ← List.drop_drop, List.drop_left, List.drop_drop, List.drop_of_length_le (by omega), List.append_nil]
  have h3 : Nat.ble (i.size + i.size) (cs ++ z.drop i.size).length = true := Nat.ble_eq_true_of_le (by simp; omega)
  simp only [fillL, h1, h1u, hc, hu, Nat.zero_mul, Nat.zero_add, Nat.one_mul, h2, e1, h3, e2]
theorem sd_lit2 {t e s1 s2 : Nat} {z1 : Value} {f1 : List (Nat × Nat)} {i : TI} {x y : Operand} {cs us : List Value} (hg : wants l E g = some true) (hf : fl ⟨some d, op, ty, pos, aft, g⟩ = false) (hop : op = .buildSlice t 2 ⟨[(0, x), (1, y)]⟩) (ht : tt t = some ⟨.slice e, s1, s2, z1, f1⟩) (he : tt e = some i) (hx : ev E x = some v) (hy : ev E y = some u) (hz : zlist v = some cs) (hzu : zlist u = some us) (hd : Nat.blt d N = true) (hl : cs.length = i.size) (hlu : us.length = i.size) (hs : 2 * i.size ≤ 16777216) (hE : Ent F F0)
    (h : ∀ g', SD P fl ro N F0 l (kk + 1) rest Q ((d, .slice (some ⟨g', 0, none⟩) 2 2) :: E) ds b (pt g' e (cs ++ us) :: F)) : SD P fl ro N F0 l kk (⟨some d, op, ty, pos, aft, g⟩ :: rest) Q E ds b F := by
  subst hop
  exact ⟨fun w H => dw_ex hg hf (ex_lit2 ht he hx hy hz hzu hl hlu hs) ((H.ext (Fr.alloc w _)).ent hE) hd ((h w.heap.size).1 _ (H.alloc (Fr.alloc w _) (Blk.new w e (cs ++ us)) (Nat.le_refl _)))⟩
end
end Go.Eng
/- The engine, part forty-five: a drawn region in which some pairs of operations with an effect may change places, with the reading ones that the later of both waits for. Conditions: as part seven, 'okTree' reckoned. -/
namespace Go.Eng
open Go Go.RowKit

/-- Operations in order; two with an effect that may change places (B: what reads, and may go ahead of both). -/
inductive OT where
  | nil
  | op (i : Nat) (t : OT)
  | two (i : Nat) (B : List Nat) (j : Nat) (t : OT)
def OT.ids : OT → List Nat
  | .nil => []
  | .op i t => i :: t.ids
  | .two i B j t => i :: (B ++ j :: t.ids)
def OT.pre : List Nat → OT → OT
  | [], t => t
  | i :: L, t => .op i (OT.pre L t)
theorem OT.ids_pre (t : OT) : ∀ L : List Nat, (OT.pre L t).ids = L ++ t.ids
  | [] => rfl
  | i :: L => by simp only [OT.pre, OT.ids, OT.ids_pre t L, List.cons_append]
def OT.rm (z : Nat) : OT → OT
  | .nil => .nil
  | .op x t => if x = z then t else .op x (t.rm z)
  | .two i B j t => if z ∈ B then .two i (B.erase z) j t else .two i B j (t.rm z)

section
variable {P : Program} {ro : Option Nat} {l : List Oper} {Q Q' : Exit → Act → World → Prop} {S : World → Prop} {fl : Oper → Bool}

def TxT (P : Program) (fl : Oper → Bool) (ro : Option Nat) (l : List Oper) (S : World → Prop) (Q : Exit → Act → World → Prop) : OT → Act → World → Prop
  | .nil => fun a w => Q .normal a w
  | .op i t => fun a w => Tx P fl ro l S (fun _ => TxT P fl ro l S Q t) [i] a w
  | .two i B j t => fun a w => Tx P fl ro l S (fun _ => TxT P fl ro l S Q t) (i :: (B ++ [j])) a w ∧ Tx P fl ro l S (fun _ => TxT P fl ro l S Q t) (B ++ [j, i]) a w
theorem TxT_pre (t : OT) : ∀ L : List Nat, TxT P fl ro l S Q (OT.pre L t) = Tx P fl ro l S (fun _ => TxT P fl ro l S Q t) L
  | [] => rfl
  | i :: L => by
    funext a w
    simp only [OT.pre, TxT]
    rw [TxT_pre t L]; rfl
theorem Tx.firstQ (hns : ∀ (i : Nat) (o : Oper), l[i]? = some o → noSel o = true) {i : Nat} {oi : Oper} (hi : l[i]? = some oi)
    (hQ : ∀ a w, S w → Q .normal a w → ∃ v, Fl P l S oi a v ∧ Q' .normal (a.put oi.dst v) w) :
    ∀ (R : List Nat) (a : Act) (w : World), (∀ r ∈ R, ∀ p : Oper, l[(r : Nat)]? = some p → Apart l p oi) → S w → Tx P fl ro l S Q R a w →
      ∃ v, Fl P l S oi a v ∧ Tx P fl ro l S Q' R (a.put oi.dst v) w := by
  intro R
  induction R with
  | nil => intro a w _ hS h; exact hQ a w hS h
  | cons r R1 ih =>
    intro a w hap hS h
    obtain ⟨p, hp, hw, hn⟩ := h
    have hapr := hap r List.mem_cons_self p hp
    have hap' : ∀ r ∈ R1, ∀ p : Oper, l[(r : Nat)]? = some p → Apart l p oi := fun r hr => hap r (List.mem_cons_of_mem _ hr)
    have hsp := hns _ _ hp
    have hsi := hns _ _ hi
    cases hwant : Region.wanted p (yielded l.toArray a.tmps) with
    | false =>
      obtain ⟨v, hv, ht⟩ := ih _ w hap' hS (hn hwant)
      refine ⟨v, (Fl.put hsi hapr).1 hv, p, hp, fun hc => ?_, fun _ => ?_⟩
      · rw [want_put hapr.symm, hwant] at hc; cases hc
      · rw [put_put hapr.symm]; exact ht
    | true =>
      rcases hw hwant with ⟨hfp, u, hu, ht0⟩ | ⟨hfp, he⟩
      · obtain ⟨v, hv, ht⟩ := ih _ w hap' hS ht0
        refine ⟨v, (Fl.put hsi hapr).1 hv, p, hp, fun _ => .inl ⟨hfp, u, ?_, ?_⟩, fun hc => ?_⟩
        · rw [run_put hsp hapr.symm]; exact hu
        · rw [put_put hapr.symm]; exact ht
        · rw [want_put hapr.symm, hwant] at hc; cases hc
      · obtain ⟨u0, w0, hS0, ht0⟩ := he.some
        obtain ⟨v, hv, _⟩ := ih _ w0 hap' hS0 ht0
        have hv := (Fl.put hsi hapr).1 hv
        refine ⟨v, hv, p, hp, fun _ => .inr ⟨hfp, ?_⟩, fun hc => ?_⟩
        · rw [eff_put hsp hapr.symm]
          refine he.mono ?_
          rintro u w' ⟨hS', ht'⟩
          obtain ⟨v', hv', ht''⟩ := ih _ w' hap' hS' ht'
          have hv' := (Fl.put hsi hapr).1 hv'
          have := Fl.unique hS' hv hv'
          subst this
          refine ⟨hS', ?_⟩
          rw [put_put hapr.symm]; exact ht''
        · rw [want_put hapr.symm, hwant] at hc; cases hc
/-- What one operation with an effect comes to. -/
def Ov (P : Program) (ro : Option Nat) (l : List Oper) (S : World → Prop) (oi : Oper) (K : Act → World → Prop) (a : Act) (w : World) : Prop :=
  (Region.wanted oi (yielded l.toArray a.tmps) = true → Eff P ro oi a w fun v w' => S w' ∧ K (a.put oi.dst v) w') ∧
  (Region.wanted oi (yielded l.toArray a.tmps) = false → K (a.put oi.dst undef) w)
theorem Tx.overQ (hns : ∀ (i : Nat) (o : Oper), l[i]? = some o → noSel o = true) {i : Nat} {oi : Oper} (hi : l[i]? = some oi)
    (hQ : ∀ a w, Q .normal a w → Ov P ro l S oi (Q' .normal) a w) :
    ∀ (R : List Nat) (a : Act) (w : World), (∀ r ∈ R, ∀ p : Oper, l[(r : Nat)]? = some p → Apart l p oi ∧ fl p = true) → Tx P fl ro l S Q R a w → Ov P ro l S oi (Tx P fl ro l S Q' R) a w := by
  intro R
  induction R with
  | nil => intro a w _ h; exact hQ a w h
  | cons r R1 ih =>
    intro a w hap h
    obtain ⟨p, hp, hw, hn⟩ := h
    obtain ⟨hapr, hfp⟩ := hap r List.mem_cons_self p hp
    have hap' : ∀ r ∈ R1, ∀ p : Oper, l[(r : Nat)]? = some p → Apart l p oi ∧ fl p = true := fun r hr => hap r (List.mem_cons_of_mem _ hr)
    have hsp := hns _ _ hp
    have hsi := hns _ _ hi
    have key : ∃ u, Fl P l S p a u ∧ Tx P fl ro l S Q R1 (a.put p.dst u) w := by
      cases hwant : Region.wanted p (yielded l.toArray a.tmps) with
      | false => exact ⟨undef, ⟨fun hc => (by rw [hwant] at hc; cases hc), fun _ => rfl⟩, hn hwant⟩
      | true =>
        rcases hw hwant with ⟨_, u, hu, ht0⟩ | ⟨hff, _⟩
        · exact ⟨u, ⟨fun _ => hu, fun hc => (by rw [hwant] at hc; cases hc)⟩, ht0⟩
        · rw [hfp] at hff; cases hff
    obtain ⟨u, hu, ht⟩ := key
    obtain ⟨h1, h2⟩ := ih _ w hap' ht
    rw [want_put hapr] at h1 h2
    have back : ∀ v w', Tx P fl ro l S Q' R1 ((a.put p.dst u).put oi.dst v) w' → Tx P fl ro l S Q' (r :: R1) (a.put oi.dst v) w' := by
      intro v w' ht'
      rw [← put_put hapr.symm] at ht'
      have hu' : Fl P l S p (a.put oi.dst v) u := (Fl.put hsp hapr.symm).2 hu
      refine ⟨p, hp, fun hc => .inl ⟨hfp, u, hu'.1 hc, ht'⟩, fun hc => ?_⟩
      have := hu'.2 hc
      subst this
      exact ht'
    refine ⟨fun hwi => ?_, fun hwi => back _ _ (h2 hwi)⟩
    have he := h1 hwi
    rw [eff_put hsi hapr] at he
    exact he.mono fun v w' ⟨hS', ht'⟩ => ⟨hS', back _ _ ht'⟩

/-! ### Which trees serve -/
def Ap (l : List Oper) (x z : Nat) : Prop := ∀ p q : Oper, l[x]? = some p → l[z]? = some q → Apart l p q
def Un (fl : Oper → Bool) (l : List Oper) (x z : Nat) : Prop := x ∈ ancs l z ∨ (Ap l x z ∧ ∀ p q : Oper, l[x]? = some p → l[z]? = some q → fl p = true ∨ fl q = true)
def IsFl (fl : Oper → Bool) (l : List Oper) (x : Nat) : Prop := ∀ p : Oper, l[x]? = some p → fl p = true
def NoFl (fl : Oper → Bool) (l : List Oper) (x : Nat) : Prop := ∀ p : Oper, l[x]? = some p → fl p = false
def Good (fl : Oper → Bool) (l : List Oper) : OT → Prop
  | .nil => True
  | .op x t => (∀ y ∈ t.ids, Un fl l x y) ∧ Good fl l t
  | .two i B j t => (∀ y ∈ t.ids, Un fl l i y ∧ Un fl l j y ∧ ∀ b ∈ B, Un fl l b y) ∧ (∀ b ∈ B, IsFl fl l b ∧ Ap l i b ∧ Un fl l b j) ∧ B.Pairwise (Un fl l) ∧ Ap l i j ∧ NoFl fl l i ∧ NoFl fl l j ∧ Good fl l t
theorem Ap.symm {x z : Nat} (h : Ap l x z) : Ap l z x := fun p q hp hq => (h q p hq hp).symm
theorem good_pre {t : OT} (ht : Good fl l t) : ∀ L : List Nat, L.Pairwise (Un fl l) → (∀ x ∈ L, ∀ y ∈ t.ids, Un fl l x y) → Good fl l (OT.pre L t)
  | [], _, _ => ht
  | x :: L, hp, hx => by
    rw [List.pairwise_cons] at hp
    refine ⟨fun y hy => ?_, good_pre ht L hp.2 fun x hx' => hx x (List.mem_cons_of_mem _ hx')⟩
    rw [OT.ids_pre] at hy
    rcases List.mem_append.1 hy with hy | hy
    · exact hp.1 y hy
    · exact hx x List.mem_cons_self y hy
theorem ids_rm {z : Nat} {oz : Oper} (hz : l[z]? = some oz) (hf : fl oz = true) : ∀ {t : OT}, Good fl l t → (t.rm z).ids = t.ids.erase z
  | .nil, _ => rfl
  | .op x t, h => by
    simp only [OT.rm, OT.ids, List.erase_cons]
    by_cases hx : x = z
    · subst hx; simp
    · rw [if_neg hx]
      have : (x == z) = false := by simpa using hx
      rw [this]
      simp only [OT.ids, ids_rm hz hf h.2, Bool.false_eq_true, if_false]
  | .two i B j t, h => by
    obtain ⟨_, _, _, _, hi, hj, hg⟩ := h
    have hzi : (i == z) = false := by
      simp only [beq_eq_false_iff_ne]
      intro e; subst e; have := hi _ hz; rw [hf] at this; cases this
    have hzj : (j == z) = false := by
      simp only [beq_eq_false_iff_ne]
      intro e; subst e; have := hj _ hz; rw [hf] at this; cases this
    simp only [OT.rm, OT.ids, List.erase_cons, hzi, Bool.false_eq_true, if_false]
    by_cases hb : z ∈ B
    · rw [if_pos hb, List.erase_append_left _ hb]; rfl
    · rw [if_neg hb, List.erase_append_right _ hb, List.erase_cons, hzj]
      simp only [OT.ids, ids_rm hz hf hg, Bool.false_eq_true, if_false]
theorem good_rm {z : Nat} {oz : Oper} (hz : l[z]? = some oz) (hf : fl oz = true) : ∀ {t : OT}, Good fl l t → Good fl l (t.rm z)
  | .nil, _ => trivial
  | .op x t, h => by
    simp only [OT.rm]
    by_cases hx : x = z
    · rw [if_pos hx]; exact h.2
    · rw [if_neg hx]
      refine ⟨fun y hy => h.1 y ?_, good_rm hz hf h.2⟩
      rw [ids_rm hz hf h.2] at hy
      exact List.mem_of_mem_erase hy
  | .two i B j t, h => by
    obtain ⟨h1, h2, h3, h4, hi, hj, hg⟩ := h
    simp only [OT.rm]
    by_cases hb : z ∈ B
    · rw [if_pos hb]
      exact ⟨fun y hy => ⟨(h1 y hy).1, (h1 y hy).2.1, fun b hb' => (h1 y hy).2.2 b (List.mem_of_mem_erase hb')⟩, fun b hb' => h2 b (List.mem_of_mem_erase hb'), h3.sublist List.erase_sublist, h4, hi, hj, hg⟩
    · rw [if_neg hb]
      refine ⟨fun y hy => h1 y ?_, h2, h3, h4, hi, hj, good_rm hz hf hg⟩
      rw [ids_rm hz hf hg] at hy
      exact List.mem_of_mem_erase hy
theorem Un.apart {x z : Nat} {p q : Oper} (h : Un fl l x z) (hn : x ∉ ancs l z) (hp : l[x]? = some p) (hq : l[z]? = some q) : Apart l p q ∧ (fl p = true ∨ fl q = true) := by
  rcases h with h | ⟨h1, h2⟩
  · exact absurd h hn
  · exact ⟨h1 p q hp hq, h2 p q hp hq⟩
theorem TxT.first (hns : ∀ (i : Nat) (o : Oper), l[i]? = some o → noSel o = true) {z : Nat} {oz : Oper} (hz : l[z]? = some oz) (hf : fl oz = true) : ∀ {t : OT}, Good fl l t → t.ids.Nodup → z ∈ t.ids → (∀ x ∈ t.ids, x ∉ ancs l z) →
    ∀ (a : Act) (w : World), S w → TxT P fl ro l S Q t a w → ∃ v, Fl P l S oz a v ∧ TxT P fl ro l S Q (t.rm z) (a.put oz.dst v) w
  | .nil, _, _, h, _, _, _, _, _ => by cases h
  | .op x t, hg, hnd, hm, hx, a, w, hS, h => by
    simp only [OT.rm]
    by_cases hxz : x = z
    · subst hxz
      rw [if_pos rfl]
      exact Tx.first hns hz hf (R2 := []) [] a w (fun r hr => by cases hr) hS h
    · rw [if_neg hxz]
      rw [OT.ids, List.nodup_cons] at hnd
      have hm' : z ∈ t.ids := (List.mem_cons.1 hm).resolve_left fun e => hxz e.symm
      refine Tx.firstQ hns hz (fun a w hS h => TxT.first hns hz hf hg.2 hnd.2 hm' (fun x hx' => hx x (List.mem_cons_of_mem _ hx')) a w hS h) [x] a w (fun r hr p hp => ?_) hS h
      rw [List.mem_singleton.1 hr] at hp
      exact ((hg.1 z hm').apart (hx x List.mem_cons_self) hp hz).1
  | .two i B j t, hg, hnd, hm, hx, a, w, hS, h => by
    obtain ⟨h1, h2, h3, h4, hi, hj, hgt⟩ := hg
    obtain ⟨ha, hb⟩ := h
    have hzi : z ≠ i := fun e => by subst e; have := hi _ hz; rw [hf] at this; cases this
    have hzj : z ≠ j := fun e => by subst e; have := hj _ hz; rw [hf] at this; cases this
    rw [OT.ids, List.nodup_cons, List.nodup_append] at hnd
    obtain ⟨hni, hnB, hnt, hdis⟩ := hnd
    rw [List.nodup_cons] at hnt
    have hxB : ∀ b ∈ B, b ∉ ancs l z := fun b hb => hx b (List.mem_cons_of_mem _ (List.mem_append_left _ hb))
    have hxi : i ∉ ancs l z := hx i List.mem_cons_self
    have hxj : j ∉ ancs l z := hx j (List.mem_cons_of_mem _ (List.mem_append_right _ List.mem_cons_self))
    simp only [OT.rm]
    by_cases hzB : z ∈ B
    · rw [if_pos hzB]
      obtain ⟨B1, B2, rfl⟩ := List.append_of_mem hzB
      have hz1 : z ∉ B1 := fun hc => by
        rw [List.nodup_append] at hnB
        exact hnB.2.2 z hc z List.mem_cons_self rfl
      have he : (B1 ++ z :: B2).erase z = B1 ++ B2 := by rw [List.erase_append_right _ hz1, List.erase_cons_head]
      rw [he]
      rw [List.pairwise_append] at h3
      have hB1 : ∀ r ∈ B1, ∀ p : Oper, l[(r : Nat)]? = some p → Apart l p oz := fun r hr p hp => ((h3.2.2 r hr z List.mem_cons_self).apart (hxB r (List.mem_append_left _ hr)) hp hz).1
      have e1 : i :: (B1 ++ z :: B2 ++ [j]) = (i :: B1) ++ z :: (B2 ++ [j]) := by simp
      have e2 : B1 ++ z :: B2 ++ [j, i] = B1 ++ z :: (B2 ++ [j, i]) := by simp
      rw [e1] at ha
      rw [e2] at hb
      obtain ⟨v, hv, ta⟩ := Tx.first hns hz hf (i :: B1) a w (fun r hr p hp => by
        rcases List.mem_cons.1 hr with rfl | hr
        · exact (h2 z hzB).2.1 p oz hp hz
        · exact hB1 r hr p hp) hS ha
      obtain ⟨v', hv', tb⟩ := Tx.first hns hz hf B1 a w hB1 hS hb
      have := Fl.unique hS hv hv'
      subst this
      refine ⟨v, hv, ?_, ?_⟩
      · have e3 : i :: (B1 ++ B2 ++ [j]) = (i :: B1) ++ (B2 ++ [j]) := by simp
        rw [e3]; exact ta
      · have e4 : B1 ++ B2 ++ [j, i] = B1 ++ (B2 ++ [j, i]) := by simp
        rw [e4]; exact tb
    · rw [if_neg hzB]
      have hm' : z ∈ t.ids := by
        rcases List.mem_cons.1 hm with e | hm
        · exact absurd e hzi
        · rcases List.mem_append.1 hm with hm | hm
          · exact absurd hm hzB
          · exact (List.mem_cons.1 hm).resolve_left hzj
      have hq := h1 z hm'
      have hrec : ∀ (a : Act) (w : World), S w → TxT P fl ro l S Q t a w → ∃ v, Fl P l S oz a v ∧ TxT P fl ro l S Q (t.rm z) (a.put oz.dst v) w := fun a w hS h => TxT.first hns hz hf hgt hnt.2 hm' (fun x hx' => hx x (List.mem_cons_of_mem _ (List.mem_append_right _ (List.mem_cons_of_mem _ hx')))) a w hS h
      have hR : ∀ r, r = i ∨ r = j ∨ r ∈ B → ∀ p : Oper, l[(r : Nat)]? = some p → Apart l p oz := fun r hr p hp => by
        rcases hr with rfl | rfl | hr
        · exact (hq.1.apart hxi hp hz).1
        · exact (hq.2.1.apart hxj hp hz).1
        · exact ((hq.2.2 r hr).apart (hxB r hr) hp hz).1
      obtain ⟨v, hv, ta⟩ := Tx.firstQ (Q' := fun _ => TxT P fl ro l S Q (t.rm z)) hns hz hrec (i :: (B ++ [j])) a w (fun r hr => hR r (by simp at hr; rcases hr with h | h | h <;> simp [h])) hS ha
      obtain ⟨v', hv', tb⟩ := Tx.firstQ (Q' := fun _ => TxT P fl ro l S Q (t.rm z)) hns hz hrec (B ++ [j, i]) a w (fun r hr => hR r (by simp at hr; rcases hr with h | h | h <;> simp [h])) hS hb
      have := Fl.unique hS hv hv'
      subst this
      exact ⟨v, hv, ta, tb⟩
theorem TxT.over (hns : ∀ (i : Nat) (o : Oper), l[i]? = some o → noSel o = true) {z : Nat} {oz : Oper} (hz : l[z]? = some oz) (hf : fl oz = false) : ∀ {t : OT}, Good fl l t → t.ids.Nodup → z ∈ t.ids → (∀ x ∈ t.ids, x ∉ ancs l z) → (∀ x ∈ t.ids, x < l.length) →
    ∃ t' : OT, t'.ids.Perm (t.ids.erase z) ∧ Good fl l t' ∧ ∀ (a : Act) (w : World), TxT P fl ro l S Q t a w → Ov P ro l S oz (TxT P fl ro l S Q t') a w
  | .nil, _, _, h, _, _ => by cases h
  | .op x t, hg, hnd, hm, hx, hlt => by
    by_cases hxz : x = z
    · subst hxz
      exact ⟨t, by rw [OT.ids, List.erase_cons_head], hg.2, fun a w h => Tx.over hns hz hf (R2 := []) [] a w (fun r hr => by cases hr) h⟩
    · rw [OT.ids, List.nodup_cons] at hnd
      have hm' : z ∈ t.ids := (List.mem_cons.1 hm).resolve_left fun e => hxz e.symm
      obtain ⟨t', hp, hgt, hT⟩ := TxT.over hns hz hf hg.2 hnd.2 hm' (fun x hx' => hx x (List.mem_cons_of_mem _ hx')) (fun x hx' => hlt x (List.mem_cons_of_mem _ hx'))
      refine ⟨.op x t', ?_, ⟨fun y hy => hg.1 y (List.mem_of_mem_erase (hp.mem_iff.1 hy)), hgt⟩, fun a w h => ?_⟩
      · rw [OT.ids, OT.ids, List.erase_cons_tail (by simpa using hxz)]
        exact hp.cons x
      · refine Tx.overQ (Q' := fun _ => TxT P fl ro l S Q t') hns hz (fun a w h => hT a w h) [x] a w (fun r hr p hp => ?_) h
        rw [List.mem_singleton.1 hr] at hp
        obtain ⟨e1, e2⟩ := (hg.1 z hm').apart (hx x List.mem_cons_self) hp hz
        exact ⟨e1, e2.resolve_right (by rw [hf]; simp)⟩
  | .two i B j t, hg, hnd, hm, hx, hlt => by
    obtain ⟨h1, h2, h3, h4, hi, hj, hgt⟩ := hg
    rw [OT.ids, List.nodup_cons, List.nodup_append] at hnd
    obtain ⟨hni, hnB, hnt, hdis⟩ := hnd
    have hxB : ∀ b ∈ B, b ∉ ancs l z := fun b hb => hx b (List.mem_cons_of_mem _ (List.mem_append_left _ hb))
    have hxi : i ∉ ancs l z := hx i List.mem_cons_self
    by_cases hzi : z = i
    · subst hzi
      refine ⟨OT.pre (B ++ [j]) t, ?_, good_pre hgt _ ?_ ?_, fun a w h => ?_⟩
      · rw [OT.ids_pre, OT.ids, List.erase_cons_head]; simp
      · rw [List.pairwise_append]
        exact ⟨h3, List.pairwise_singleton _ _, fun b hb y hy => by rw [List.mem_singleton.1 hy]; exact (h2 b hb).2.2⟩
      · intro x hx' y hy
        rcases List.mem_append.1 hx' with hx' | hx'
        · exact (h1 y hy).2.2 x hx'
        · rw [List.mem_singleton.1 hx']; exact (h1 y hy).2.1
      · rw [TxT_pre]
        exact Tx.over hns hz hf (R2 := B ++ [j]) [] a w (fun r hr => by cases hr) h.1
    by_cases hzj : z = j
    · subst hzj
      refine ⟨OT.pre (B ++ [i]) t, ?_, good_pre hgt _ ?_ ?_, fun a w h => ?_⟩
      · have hzB : z ∉ B := fun hc => hdis z hc z List.mem_cons_self rfl
        rw [OT.ids_pre, OT.ids, List.erase_cons_tail (by simpa using fun e => hzi e.symm), List.erase_append_right _ hzB, List.erase_cons_head]
        simp only [List.append_assoc, List.singleton_append]
        exact List.perm_middle
      · rw [List.pairwise_append]
        exact ⟨h3, List.pairwise_singleton _ _, fun b hb y hy => by
          rw [List.mem_singleton.1 hy]
          exact .inr ⟨(h2 b hb).2.1.symm, fun p q hp hq => .inl ((h2 b hb).1 p hp)⟩⟩
      · intro x hx' y hy
        rcases List.mem_append.1 hx' with hx' | hx'
        · exact (h1 y hy).2.2 x hx'
        · rw [List.mem_singleton.1 hx']; exact (h1 y hy).1
      · rw [TxT_pre]
        have hb := h.2
        exact Tx.over hns hz hf (R2 := [i]) B a w (fun r hr p hp => by
          obtain ⟨e1, e2⟩ := ((h2 r hr).2.2).apart (hxB r hr) hp hz
          exact ⟨e1, (h2 r hr).1 p hp⟩) hb
    · exfalso
      rcases List.mem_cons.1 hm with e | hm
      · exact hzi e
      · rcases List.mem_append.1 hm with hm | hm
        · have := (h2 z hm).1 _ hz
          rw [hf] at this; cases this
        · have hm' := (List.mem_cons.1 hm).resolve_left hzj
          rcases (h1 z hm').1 with e | ⟨_, e⟩
          · exact hxi e
          · have hp : l[i]? = some (l[i]'(hlt i List.mem_cons_self)) := List.getElem?_eq_getElem _
            generalize l[i]'(hlt i List.mem_cons_self) = p at hp
            have e1 := hi p hp
            rcases e p oz hp hz with e2 | e2
            · rw [e1] at e2; cases e2
            · rw [hf] at e2; cases e2
/-- The region. -/
theorem region_tree {t : OT} (hb : okBack l = true) (hg : Good fl l t) (hnd : t.ids.Nodup) (hall : ∀ k, k ∈ t.ids ↔ k < l.length) (hm : P.follows .mixedOrders = true) {id : Nat} {a : Act} {w : World} (hS : S w.drew)
    (h : TxT P fl ro l S Q t a w.drew) : (Code.region id l.toArray true).wpIn (FR ro) 0 P Q a w := by
  have hns := okBack_ns hb
  let I : Array Bool → Act → World → Prop := fun listed a w => S w ∧ ∃ t : OT, Good fl l t ∧ t.ids.Nodup ∧ (∀ k, k ∈ t.ids ↔ k < l.length ∧ listed.getD k false = false) ∧ TxT P fl ro l S Q t a w
  refine region_inv hb hm I ?_ ?_ ?_
  · refine ⟨hS, t, hg, hnd, fun k => ?_, h⟩
    have e : (Array.replicate l.length false).getD k false = false := by rw [Array.getD_eq_getD_getElem?, Array.getElem?_replicate]; split <;> rfl
    rw [hall k, e]; simp
  · intro listed a w i o hsz hcl hI ho hf hdeps
    obtain ⟨hSw, t, hg, hnd, hall, hT⟩ := hI
    have hlt : i < l.length := (List.getElem?_eq_some_iff.1 ho).1
    have him : i ∈ t.ids := (hall i).2 ⟨hlt, hf⟩
    have hancl : ∀ r ∈ ancs l i, listed.getD r false = true := fun r hr => ancT_sound hcl l [] [] rfl rfl (fun i o h => by simp at h) i o ho hdeps r hr
    have hx : ∀ x ∈ t.ids, x ∉ ancs l i := fun x hx hc => by
      have h1 := hancl x hc
      rw [((hall x).1 hx).2] at h1; cases h1
    have hpend : ∀ ids : List Nat, ids.Perm (t.ids.erase i) → ∀ k, k ∈ ids ↔ k < l.length ∧ (listed.setIfInBounds i true).getD k false = false := fun ids hp k => by
      rw [hp.mem_iff, hnd.mem_erase_iff, hall k]
      by_cases hik : i = k
      · subst hik
        have e : (listed.setIfInBounds i true).getD i false = true := by rw [Array.getD_eq_getD_getElem?, Array.getElem?_setIfInBounds, if_pos rfl, if_pos (by omega)]; rfl
        rw [e]; simp
      · rw [getD_set_ne false hik]
        constructor
        · rintro ⟨_, h1, h2⟩; exact ⟨h1, h2⟩
        · rintro ⟨h1, h2⟩; exact ⟨fun e => hik e.symm, h1, h2⟩
    cases hfo : fl o with
    | true =>
      obtain ⟨v, hv, ht⟩ := TxT.first hns ho hfo hg hnd him hx a w hSw hT
      have he := ids_rm ho hfo hg
      have fin : I (listed.setIfInBounds i true) (a.put o.dst v) w := ⟨hSw, t.rm i, good_rm ho hfo hg, by rw [he]; exact hnd.erase i, hpend _ (by rw [he]), ht⟩
      refine ⟨fun hw => ?_, fun hw => ?_⟩
      · unfold Eff
        rw [hv.1 hw w hSw]
        exact fin
      · rw [hv.2 hw] at fin; exact fin
    | false =>
      obtain ⟨t', hp, hg', hO⟩ := TxT.over (P := P) (ro := ro) (Q := Q) (S := S) hns ho hfo hg hnd him hx (fun x hx => ((hall x).1 hx).1)
      obtain ⟨h1, h2⟩ := hO a w hT
      have hnd' : t'.ids.Nodup := hp.nodup_iff.2 (hnd.erase i)
      exact ⟨fun hw => (h1 hw).mono fun v w' ⟨hS', ht⟩ => ⟨hS', t', hg', hnd', hpend _ hp, ht⟩, fun hw => ⟨hSw, t', hg', hnd', hpend _ hp, h2 hw⟩⟩
  · intro listed a w hsz hI hdone
    obtain ⟨_, t, _, _, hall, hT⟩ := hI
    have hno : ∀ k, k ∉ t.ids := fun k hk => by
      obtain ⟨h1, h2⟩ := (hall k).1 hk
      rw [hdone k h1] at h2; cases h2
    cases t with
    | nil => exact hT
    | op i t => exact absurd List.mem_cons_self (hno i)
    | two i B j t => exact absurd List.mem_cons_self (hno i)
end

/-! ### Reckoned -/
def unB (fl : Oper → Bool) (l : List Oper) (an : List (List Nat)) (x z : Nat) : Bool := (an.getD z []).contains x || match l[x]?, l[z]? with
  | some p, some q => p.apart l.toArray q && q.apart l.toArray p && (fl p || fl q)
  | _, _ => true
def apB (l : List Oper) (x z : Nat) : Bool := match l[x]?, l[z]? with
  | some p, some q => p.apart l.toArray q && q.apart l.toArray p
  | _, _ => true
def pwB (f : Nat → Nat → Bool) : List Nat → Bool
  | [] => true
  | x :: L => L.all (f x) && pwB f L
def goodB (fl : Oper → Bool) (l : List Oper) (an : List (List Nat)) : OT → Bool
  | .nil => true
  | .op x t => t.ids.all (unB fl l an x) && goodB fl l an t
  | .two i B j t => (t.ids.all fun y => unB fl l an i y && unB fl l an j y && B.all fun b => unB fl l an b y) && (B.all fun b => (match l[b]? with | some p => fl p | none => true) && apB l i b && unB fl l an b j) && pwB (unB fl l an) B && apB l i j &&
    (match l[i]? with | some p => !fl p | none => true) && (match l[j]? with | some p => !fl p | none => true) && goodB fl l an t
def okTree (fl : Oper → Bool) (l : List Oper) (t : OT) : Bool :=
  okBack l && goodB fl l (ancT l []) t && pwB (fun x y => !Nat.beq x y) t.ids && t.ids.all (fun k => Nat.blt k l.length) && (List.range l.length).all fun k => t.ids.contains k
section
variable {fl : Oper → Bool} {l : List Oper}
theorem pwB_pw {f : Nat → Nat → Bool} {R : Nat → Nat → Prop} (h : ∀ x y, f x y = true → R x y) : ∀ {L : List Nat}, pwB f L = true → L.Pairwise R
  | [], _ => List.Pairwise.nil
  | x :: L, hb => by
    simp only [pwB, Bool.and_eq_true] at hb
    exact List.Pairwise.cons (fun y hy => h x y (List.all_eq_true.1 hb.1 y hy)) (pwB_pw h hb.2)
theorem apB_ap {x z : Nat} (h : apB l x z = true) : Ap l x z := fun p q hp hq => by
  simp only [apB, hp, hq, Bool.and_eq_true] at h
  exact h
theorem unB_un {x z : Nat} (h : unB fl l (ancT l []) x z = true) : Un fl l x z := by
  simp only [unB, Bool.or_eq_true] at h
  rcases h with h | h
  · exact .inl (List.contains_iff_mem.1 h)
  · refine .inr ⟨fun p q hp hq => ?_, fun p q hp hq => ?_⟩
    · simp only [hp, hq, Bool.and_eq_true] at h
      exact h.1
    · simp only [hp, hq, Bool.and_eq_true, Bool.or_eq_true] at h
      exact h.2
theorem goodB_good : ∀ {t : OT}, goodB fl l (ancT l []) t = true → Good fl l t
  | .nil, _ => trivial
  | .op x t, h => by
    simp only [goodB, Bool.and_eq_true] at h
    exact ⟨fun y hy => unB_un (List.all_eq_true.1 h.1 y hy), goodB_good h.2⟩
  | .two i B j t, h => by
    simp only [goodB, Bool.and_eq_true] at h
    obtain ⟨⟨⟨⟨⟨⟨h1, h2⟩, h3⟩, h4⟩, h5⟩, h6⟩, h7⟩ := h
    refine ⟨fun y hy => ?_, fun b hb => ?_, pwB_pw (fun x y h => unB_un h) h3, apB_ap h4, fun p hp => ?_, fun p hp => ?_, goodB_good h7⟩
    · have := List.all_eq_true.1 h1 y hy
      simp only [Bool.and_eq_true] at this
      exact ⟨unB_un this.1.1, unB_un this.1.2, fun b hb => unB_un (List.all_eq_true.1 this.2 b hb)⟩
    · have := List.all_eq_true.1 h2 b hb
      simp only [Bool.and_eq_true] at this
      refine ⟨fun p hp => ?_, apB_ap this.1.2, unB_un this.2⟩
      have h8 := this.1.1
      rw [hp] at h8; exact h8
    · rw [hp] at h5; simpa using h5
    · rw [hp] at h6; simpa using h6
theorem okTree_ok {t : OT} (h : okTree fl l t = true) : okBack l = true ∧ Good fl l t ∧ t.ids.Nodup ∧ ∀ k, k ∈ t.ids ↔ k < l.length := by
  simp only [okTree, Bool.and_eq_true] at h
  obtain ⟨⟨⟨⟨h1, h2⟩, h3⟩, h4⟩, h5⟩ := h
  refine ⟨h1, goodB_good h2, pwB_pw (fun x y h e => ?_) h3, fun k => ⟨fun hk => ?_, fun hk => ?_⟩⟩
  · subst e
    rw [Nat.beq_refl] at h; cases h
  · exact Nat.le_of_ble_eq_true (List.all_eq_true.1 h4 k hk)
  · exact List.contains_iff_mem.1 (List.all_eq_true.1 h5 k (List.mem_range.2 hk))
end

/-! ### Walked -/
section
variable {P : Program} {fl : Oper → Bool} {ro : Option Nat} {N : Nat} {l : List Oper} {Q : Exit → Act → World → Prop} {E : List (Nat × Value)} {ds : List Deferred} {b : World} {F F0 : List SP}
structure ST (P : Program) (fl : Oper → Bool) (ro : Option Nat) (N : Nat) (F0 : List SP) (l : List Oper) (t : OT) (Q : Exit → Act → World → Prop) (E : List (Nat × Value)) (ds : List Deferred) (b : World) (F : List SP) : Prop where
  run : ∀ w, Sat b F w → ∀ a, Kn N E a → a.defers = ds → Sat b F0 w → TxT P fl ro l (Sat b F0) Q t a w
theorem sw_tree (fl : Oper → Bool) (t : OT) (F0 : List SP) [hm : Mixed P] {id : Nat} (hok : okTree fl l t = true) (he : Ent F F0) (h : ST P fl ro N F0 l t Q E ds b F) : SW P ro N (.region id l.toArray true) Q E ds b F := ⟨fun w H a hk hd => by
  obtain ⟨h1, h2, h3, h4⟩ := okTree_ok hok
  have H' := H.ext (Fr.drew w)
  exact region_tree h1 h2 h3 h4 hm.on (S := Sat b F0) (H'.ent he) (h.run _ H' a hk hd (H'.ent he))⟩
theorem st_ops (k n : Nat) (t : OT) {t0 : OT} (ht : OT.pre (List.range' k n) t = t0) (hn : Nat.ble (k + n) l.length = true) (h : SD P fl ro N F0 l k ((l.drop k).take n) (fun _ => TxT P fl ro l (Sat b F0) Q t) E ds b F) : ST P fl ro N F0 l t0 Q E ds b F := ⟨fun w H a hk hd H0 => by
  subst ht
  have hn := Nat.le_of_ble_eq_true hn
  have hl : ((l.drop k).take n).length = n := by rw [List.length_take, List.length_drop]; omega
  have := h.run w H a hk hd H0 (fun j hj => by
    rw [hl] at hj
    rw [List.getElem?_take, if_pos hj, List.getElem?_drop])
  rw [hl] at this
  rw [TxT_pre]
  exact this⟩
theorem st_two {i j : Nat} {B : List Nat} {t : OT} (h1 : ST P fl ro N F0 l (OT.pre (i :: (B ++ [j])) t) Q E ds b F) (h2 : ST P fl ro N F0 l (OT.pre (B ++ [j, i]) t) Q E ds b F) : ST P fl ro N F0 l (.two i B j t) Q E ds b F := ⟨fun w H a hk hd H0 => by
  have a1 := h1.run w H a hk hd H0
  have a2 := h2.run w H a hk hd H0
  rw [TxT_pre] at a1 a2
  exact ⟨a1, a2⟩⟩
theorem sn_tree {t : OT} (he : Ent F F0) (h : ST P fl ro N F0 l t Q E ds b F) : SN N (fun _ => TxT P fl ro l (Sat b F0) Q t) .normal E ds b F := ⟨fun w H a hk hd => h.run w H a hk hd (H.ent he)⟩
/-- Both orders, joined. -/
theorem st_twoJ {S' : Type} {i j : Nat} {B : List Nat} {t : OT} (Em : S' → List (Nat × Value)) (Fm : S' → List SP) (I : S' → Prop) (he : ∀ s, I s → Ent (Fm s) F0)
    (h1 : (∀ s E' F', I s → Sub (Em s) E' → Ent F' (Fm s) → SN N (fun _ => TxT P fl ro l (Sat b F0) Q t) .normal E' ds b F') → ST P fl ro N F0 l (OT.pre (i :: (B ++ [j])) t) Q E ds b F)
    (h2 : (∀ s E' F', I s → Sub (Em s) E' → Ent F' (Fm s) → SN N (fun _ => TxT P fl ro l (Sat b F0) Q t) .normal E' ds b F') → ST P fl ro N F0 l (OT.pre (B ++ [j, i]) t) Q E ds b F)
    (tail : ∀ s, I s → ST P fl ro N F0 l t Q (Em s) ds b (Fm s)) : ST P fl ro N F0 l (.two i B j t) Q E ds b F := by
  have J : ∀ s E' F', I s → Sub (Em s) E' → Ent F' (Fm s) → SN N (fun _ => TxT P fl ro l (Sat b F0) Q t) .normal E' ds b F' := fun s E' F' hI hs hF => ⟨fun w H a hk hd => (tail s hI).run w (H.ent hF) a (hk.sub hs) hd ((H.ent hF).ent (he s hI))⟩
  exact st_two (h1 J) (h2 J)
theorem sn_last (h : SN N Q .normal E ds b F) : SN N (fun _ => TxT P fl ro l (Sat b F0) Q .nil) .normal E ds b F := ⟨fun w H a hk hd => h.run w H a hk hd⟩
end
end Go.Eng
