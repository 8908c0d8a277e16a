/- The engine, part twenty-six: a drawn region whose first part is unordered (new memory, calls): each operation's fact from the values of those that it names; then the rest in the order of the text. Conditions: as part seven. -/
import Derived.Test.YtmeiadgpglpelaaGreatK2
import Derived.Deep.Slices
import Derived.Laws.CopyRow
namespace Go.Eng
open Go Go.RowKit

/-- What an operation yields: a value; or new memory. -/
inductive FD where
  | val (v : Value)
  | new (t : Nat) (zs : List Value)
def dirs (o : Oper) : List Nat := (o.after.toList.filter (Region.binds .any ·)).map (·.on)
def okDirs (l : List Oper) (n : Nat) : Bool := (List.range n).all fun i => match l[i]? with | some o => (dirs o).all (ancs l i).contains && (ancs l i).all (Nat.blt · n) | none => false
section
variable {P : Program} {tt : Nat → Option TI} [TT P tt] {ro : Option Nat} {N n : Nat} {l rest : List Oper} {Q : Exit → Act → World → Prop} {E E0 : List (Nat × Value)} {ds : List Deferred} {b : World} {F F0 : List SP} {fl : Oper → Bool}

theorem knOf_congr {vs vs' : Nat → Value} : ∀ {L : List Nat}, (∀ j ∈ L, vs j = vs' j) → knOf l E0 vs L = knOf l E0 vs' L
  | [], _ => rfl
  | j :: L, h => by simp only [knOf]; rw [h j (by simp), knOf_congr (L := L) fun i hi => h i (by simp [hi])]
theorem look_kn {vs : Nat → Value} (hd : ∀ j, j < n → look E0 (dstOf l j) = none ∧ ∀ k, k < n → k ≠ j → dstOf l k ≠ dstOf l j) : ∀ {M : List Nat}, (∀ j ∈ M, j < n) → (∀ j ∈ M, look (knOf l E0 vs M) (dstOf l j) = some (vs j)) ∧ ∀ i v, look E0 i = some v → look (knOf l E0 vs M) i = some v
  | [], _ => ⟨fun _ h => by simp at h, fun _ _ h => h⟩
  | j :: M, hM => by
    obtain ⟨i1, i2⟩ := look_kn (vs := vs) hd (M := M) fun k hk => hM k (by simp [hk])
    have hj := hM j (by simp)
    refine ⟨fun k hk => ?_, fun i v hv => ?_⟩
    · simp only [knOf, look]
      by_cases he : dstOf l j = dstOf l k
      · have hkj : k = j := by
          by_cases h : k = j
          · exact h
          · exact absurd he.symm ((hd j hj).2 k (hM k hk) h)
        subst hkj
        simp
      · have hk' : k ∈ M := by
          rcases List.mem_cons.1 hk with rfl | h
          · exact absurd rfl he
          · exact h
        have hb : Nat.beq (dstOf l j) (dstOf l k) = false := by
          cases h : Nat.beq (dstOf l j) (dstOf l k) with
          | true => exact absurd (Nat.eq_of_beq_eq_true h) he
          | false => rfl
        rw [hb]; exact i1 k hk'
    · simp only [knOf, look]
      have hne : dstOf l j ≠ i := fun h => by rw [← h, (hd j hj).1] at hv; cases hv
      have hb : Nat.beq (dstOf l j) i = false := by
        cases h : Nat.beq (dstOf l j) i with
        | true => exact absurd (Nat.eq_of_beq_eq_true h) hne
        | false => rfl
      rw [hb]; exact i2 i v hv
theorem look_inv {vs : Nat → Value} : ∀ {L : List Nat} {i : Nat} {v : Value}, look (knOf l E0 vs L) i = some v → (∃ j ∈ L, dstOf l j = i ∧ vs j = v) ∨ look E0 i = some v
  | [], _, _, h => .inr h
  | j :: L, i, v, h => by
    simp only [knOf, look] at h
    split at h
    · rename_i hb
      cases h
      exact .inl ⟨j, by simp, Nat.eq_of_beq_eq_true hb, rfl⟩
    · rcases look_inv h with ⟨k, h1, h2⟩ | h1
      · exact .inl ⟨k, by simp [h1], h2⟩
      · exact .inr h1
/-! ## Steps of the first part -/
variable {D : List FD} {d : Nat} {op : Op} {ty : TypeId} {pos : String} {aft : Array Edge} {g : Option (Nat × Bool)} {v : Value}
end
end Go.Eng
/- The engine, part twenty-seven: as part thirteen, where some of the first operations only tell values and need not have run before the second part begins. Conditions: as part seven. -/
namespace Go.Eng
open Go Go.RowKit

section
variable {P : Program} {ro : Option Nat} {l : List Oper} {Q : Exit → Act → World → Prop} {N : Nat} {ds : List Deferred} {E0 : List (Nat × Value)} {fl : Oper → Bool}

end
end Go.Eng
/- The engine, part twenty-eight: unordered first parts, walked. Conditions: as part seven. -/
namespace Go.Eng
open Go Go.RowKit

section
variable {P : Program} {tt : Nat → Option TI} [TT P tt] {ro : Option Nat} {N n : Nat} {C : List Nat} {l rest : List Oper} {Q : Exit → Act → World → Prop} {E E0 : List (Nat × Value)} {ds : List Deferred} {b : World} {F F0 : List SP} {fl : Oper → Bool}

/-! ## Steps of the first part -/
variable {D : List FD} {d : Nat} {op : Op} {ty : TypeId} {pos : String} {aft : Array Edge} {g : Option (Nat × Bool)} {v : Value}
end
end Go.Eng
/- The engine, part twenty-nine: several cells are read out of a row. Conditions: as part two. -/
namespace Go.Eng
open Go Go.RowKit

section
variable {P : Program} {tt : Nat → Option TI} [TT P tt] {ro : Option Nat} {N : Nat} {l rest : List Oper} {Q : Exit → Act → World → Prop} {E : List (Nat × Value)} {ds : List Deferred} {b : World} {F F0 G : List SP} {fl : Oper → Bool} {kk : Nat}
  {d : Nat} {op : Op} {ty : TypeId} {pos : String} {aft : Array Edge} {g : Option (Nat × Bool)} {v : Value}
/-- A slice literal of one element of several cells. -/
theorem ex_lit1 {t e s1 s2 : Nat} {z1 : Value} {f1 : List (Nat × Nat)} {i : TI} {x : Operand} {cs : List Value} {w : World} (ht : tt t = some ⟨.slice e, s1, s2, z1, f1⟩) (he : tt e = some i) (hx : ev E x = some v) (hz : zlist v = some cs) (hl : cs.length = i.size) (hs : i.size ≤ 16777216) :
    Ex P E (.buildSlice t 1 ⟨[(0, x)]⟩) ty w (.slice (some ⟨w.heap.size, 0, none⟩) 1 1) (w.alloc (.cells cs.toArray e)) := by
  have hc := zlist_eq hz
  refine ex_buildSlice ht he (vs := [(0, v)]) (by simp [hx]) rfl (by omega) fun z hz' => ?_
  have h1 : Nat.beq v.cells.size i.size = true := by
    have : v.cells.size = i.size := by rw [← hl, ← hc]; simp
    rw [this]; exact Nat.beq_refl _
  have h2 : Nat.ble i.size z.length = true := Nat.ble_eq_true_of_le (by omega)
  simp only [fillL, h1, hc, spl, Nat.zero_mul, List.take_zero, List.nil_append, Nat.zero_add]
  rw [List.drop_of_length_le (by omega), List.append_nil, h2]
theorem so_lit1 {t e s1 s2 : Nat} {z1 : Value} {f1 : List (Nat × Nat)} {i : TI} {x : Operand} {cs : List Value} (hg : wants l E g = some true) (hop : op = .buildSlice t 1 ⟨[(0, x)]⟩) (ht : tt t = some ⟨.slice e, s1, s2, z1, f1⟩) (he : tt e = some i) (hx : ev E x = some v) (hz : zlist v = some cs) (hd : Nat.blt d N = true) (hl : cs.length = i.size) (hs : i.size ≤ 16777216)
    (h : ∀ g', SO P ro N l rest Q ((d, .slice (some ⟨g', 0, none⟩) 1 1) :: E) ds b (pt g' e cs :: F)) : SO P ro N l (⟨some d, op, ty, pos, aft, g⟩ :: rest) Q E ds b F := by
  subst hop
  exact ⟨fun w H => ow_ex hg (ex_lit1 ht he hx hz hl hs) hd ((h w.heap.size).1 _ (H.alloc (Fr.alloc w _) (Blk.new w e cs) (Nat.le_refl _)))⟩
theorem sd_lit1 {t e s1 s2 : Nat} {z1 : Value} {f1 : List (Nat × Nat)} {i : TI} {x : Operand} {cs : List Value} (hg : wants l E g = some true) (hf : fl ⟨some d, op, ty, pos, aft, g⟩ = false) (hop : op = .buildSlice t 1 ⟨[(0, x)]⟩) (ht : tt t = some ⟨.slice e, s1, s2, z1, f1⟩) (he : tt e = some i) (hx : ev E x = some v) (hz : zlist v = some cs) (hd : Nat.blt d N = true) (hl : cs.length = i.size) (hs : i.size ≤ 16777216) (hE : Ent F F0)
    (h : ∀ g', SD P fl ro N F0 l (kk + 1) rest Q ((d, .slice (some ⟨g', 0, none⟩) 1 1) :: E) ds b (pt g' e cs :: F)) : SD P fl ro N F0 l kk (⟨some d, op, ty, pos, aft, g⟩ :: rest) Q E ds b F := by
  subst hop
  exact ⟨fun w H => dw_ex hg hf (ex_lit1 ht he hx hz hl hs) ((H.ext (Fr.alloc w _)).ent hE) hd ((h w.heap.size).1 _ (H.alloc (Fr.alloc w _) (Blk.new w e cs) (Nat.le_refl _)))⟩
variable {n : Nat} {C : List Nat} {E0 : List (Nat × Value)} {D : List FD}
end
end Go.Eng
/- The engine, part thirty-one: append of so many zeros to nothing (what is grown). Conditions: as part two. -/
namespace Go.Eng
open Go Go.RowKit

theorem law_of {P : Program} {f : FuncId} {args : List Value} {W : World} (h : SC P f args W [Is W] (fun v F' => v = .bool true ∧ F' = [Is W])) : Calls P f args.toArray W (fun e w' => e = .returned (.bool true) ∧ Ext W w') :=
  (h W (Sat.start W)).mono fun _ _ ⟨_, _, h1, ⟨h2, h3⟩, h4⟩ => by subst h2; subst h3; exact ⟨h1, h4.is (k := 0) rfl⟩
section
variable {P : Program} {tt : Nat → Option TI} [TT P tt] {ro : Option Nat} {N : Nat} {l rest : List Oper} {Q : Exit → Act → World → Prop} {E : List (Nat × Value)} {ds : List Deferred} {b : World} {F G : List SP}
  {d : Nat} {op : Op} {ty : TypeId} {pos : String} {aft : Array Edge} {g : Option (Nat × Bool)} {v : Value}
/-- A slice literal of no element. -/
theorem so_lit0 {t e s1 s2 : Nat} {z1 : Value} {f1 : List (Nat × Nat)} {i : TI} (hg : wants l E g = some true) (hop : op = .buildSlice t 0 ⟨[]⟩) (ht : tt t = some ⟨.slice e, s1, s2, z1, f1⟩) (he : tt e = some i) (hd : Nat.blt d N = true)
    (h : ∀ g', SO P ro N l rest Q ((d, .slice (some ⟨g', 0, none⟩) 0 0) :: E) ds b (pt g' e [] :: F)) : SO P ro N l (⟨some d, op, ty, pos, aft, g⟩ :: rest) Q E ds b F := by
  subst hop
  exact ⟨fun w H => ow_ex hg (ex_buildSlice (vs := []) (cells := []) ht he rfl rfl (by omega) (fun z hz => by
    have : z = [] := List.eq_nil_of_length_eq_zero (by omega)
    subst this; rfl)) hd ((h w.heap.size).1 _ (H.alloc (Fr.alloc w _) (Blk.new w e []) (Nat.le_refl _)))⟩
end
end Go.Eng
/- The engine, part thirty-two: arguments of any depth are opened. Conditions: as part two. -/
namespace Go.Eng
open Go Go.RowKit Go.ChangeShapes Go.WideShapes Go.ChangeAt Go.Deep

/-- How cells read. -/
abbrev Rdg (α : Type) := World → List Value → α → Prop
def rdI (k : IntKind) : Rdg Int := fun _ cs n => cs = [.int k n] ∧ (Lit.int k n).wf = true
def rdS : Rdg ByteArray := fun _ cs s => cs = [.string s] ∧ s.size ≤ maxLen
def rdL {α : Type} (sz : Nat) (R : Rdg α) : Rdg (Value × List α) := fun W cs x => cs = [x.1] ∧ ∃ ess : List (List Value), ess.length = x.2.length ∧ (∀ e ∈ ess, e.length = sz) ∧ SL W sz x.1 x.2.length ess.flatten ∧ ∀ (i : Nat) e a, ess[i]? = some e → x.2[i]? = some a → R W e a
def rdA (n : Nat) (k : IntKind) : Rdg (List Int) := fun _ cs x => cs = x.map (Value.int k) ∧ x.length = n ∧ ∀ c ∈ x, (Lit.int k c).wf = true
def rdN {α β : Type} (n : Nat) (R : Rdg α) (S : Rdg β) : Rdg (α × β) := fun W cs x => R W (cs.take n) x.1 ∧ S W (cs.drop n) x.2

def Opens {α : Type} (P : Program) (t : TypeId) (R : Rdg α) : Prop := ∀ (H : Type) (enc : TypeId × Value → H) (W : World) (base : Nat) (spare : Nat → Bool) (held : Bool) (fuel : Nat) (cs : List Value) y, DataW.trod enc P W base spare held fuel t cs = some y → ∃ x, R W cs x
variable {P : Program}
theorem opens_int {t : TypeId} {k : IntKind} (ht : P.underlying t = some (.int k)) : Opens P t (rdI k) := by
  intro H enc W base spare held fuel cs y h
  cases fuel with
  | zero => simp [DataW.trod] at h
  | succ n =>
    unfold DataW.trod at h
    rw [ht] at h
    split at h <;> simp_all
    exact ⟨_, ⟨by obtain ⟨⟨rfl, _⟩, _⟩ := h; rfl, h.1.2⟩⟩
theorem opens_str {t : TypeId} (ht : P.underlying t = some .string) : Opens P t rdS := by
  intro H enc W base spare held fuel cs y h
  cases fuel with
  | zero => simp [DataW.trod] at h
  | succ n =>
    unfold DataW.trod at h
    rw [ht] at h
    split at h <;> simp_all
    exact ⟨_, ⟨rfl, h.1⟩⟩
theorem flat_get {sz : Nat} : ∀ {ess : List (List Value)}, (∀ e ∈ ess, e.length = sz) → ∀ (i k : Nat), k < sz → ess.flatten[i * sz + k]? = (ess[i]?).bind (·[k]?)
  | [], _, i, k, _ => by simp
  | e :: ess, h, 0, k, hk => by
    have := h e (by simp)
    simp only [List.flatten_cons, Nat.zero_mul, Nat.zero_add]
    rw [List.getElem?_append_left (by omega)]; rfl
  | e :: ess, h, i + 1, k, hk => by
    have he := h e (by simp)
    have ih := flat_get (ess := ess) (fun x hx => h x (by simp [hx])) i k hk
    simp only [List.flatten_cons]
    rw [List.getElem?_append_right (by rw [he, Nat.succ_mul]; omega), he, show (i + 1) * sz + k - sz = i * sz + k by rw [Nat.succ_mul]; omega, ih]; rfl
theorem flat_len {sz : Nat} : ∀ {ess : List (List Value)}, (∀ e ∈ ess, e.length = sz) → ess.flatten.length = ess.length * sz
  | [], _ => by simp
  | e :: ess, h => by
    have ih := flat_len (ess := ess) (fun x hx => h x (by simp [hx]))
    simp only [List.flatten_cons, List.length_append, h e (by simp), ih, List.length_cons, Nat.succ_mul]; omega
theorem pick_list {β α : Type} (p : Nat → β → α → Prop) : ∀ n, (∀ i, i < n → ∃ c x, p i c x) → ∃ (cs : List β) (xs : List α), cs.length = n ∧ xs.length = n ∧ ∀ i c x, cs[i]? = some c → xs[i]? = some x → p i c x
  | 0, _ => ⟨[], [], rfl, rfl, by simp⟩
  | n + 1, h => by
    obtain ⟨cs, xs, h1, h2, h3⟩ := pick_list p n fun i hi => h i (by omega)
    obtain ⟨c, x, hp⟩ := h n (by omega)
    refine ⟨cs ++ [c], xs ++ [x], by simp [h1], by simp [h2], fun i c' x' e1 e2 => ?_⟩
    rcases Nat.lt_trichotomy i n with hi | rfl | hi
    · rw [List.getElem?_append_left (by omega)] at e1 e2
      exact h3 i c' x' e1 e2
    · rw [List.getElem?_append_right (by omega), h1] at e1
      rw [List.getElem?_append_right (by omega), h2] at e2
      simp at e1 e2; subst e1; subst e2; exact hp
    · have := (List.getElem?_eq_some_iff.1 e1).1
      simp at this; omega
theorem opens_list {α : Type} {R : Rdg α} {t e : TypeId} {sz : Nat} (ht : P.underlying t = some (.slice e)) (hsz : P.cellsOf e = sz) (h0 : 0 < sz) (he : Opens P e R) : Opens P t (rdL sz R) := by
  intro H enc W base spare held fuel cs y h
  rcases open_slice ht h with ⟨rfl, _⟩ | ⟨a, len, cap, m, n, D, Pl, rfl, _, hc, hm, hmm, _, hel⟩
  · exact ⟨(.slice none 0 0, []), rfl, [], rfl, by simp, ⟨none, 0, rfl, by simp, Nat.le_refl _, Nat.zero_le _, fun _ => rfl, fun h => absurd h (Nat.lt_irrefl 0)⟩, by simp⟩
  have hlm : len ≤ m := by rw [hmm]; split <;> omega
  rw [hsz] at hel
  obtain ⟨ess, xs, e1, e2, e3⟩ := pick_list (fun i c x => W.cells? base (a.add (i * sz)) sz = some c ∧ R W c x) len fun i hi => by
    obtain ⟨cs', h1, h2⟩ := hel i (by omega)
    obtain ⟨x, hx⟩ := he _ _ _ _ _ _ _ _ _ h2
    exact ⟨cs', x, h1, hx⟩
  have hlen : ∀ c ∈ ess, c.length = sz := fun c hc => by
    obtain ⟨i, hi, rfl⟩ := List.mem_iff_getElem.1 hc
    have := (e3 i _ _ (List.getElem?_eq_getElem hi) (List.getElem?_eq_getElem (l := xs) (i := i) (by omega))).1
    exact (World.cells?_some this).2.1
  refine ⟨(.slice (some a) len cap, xs), rfl, ess, by dsimp only; omega, hlen, ⟨some a, cap, by rw [e2], by rw [flat_len hlen, e1, e2], by dsimp only; omega, hm, by simp, fun hn => ?_⟩, fun i c x h1 h2 => (e3 i c x h1 h2).2⟩
  rw [e2] at hn
  have hcell : ∀ i k, i < len → k < sz → W.cell? (a.add (i * sz + k)) = ess.flatten[i * sz + k]? := fun i k hi hk => by
    have hi' : i < ess.length := by omega
    have := (e3 i _ _ (List.getElem?_eq_getElem hi') (List.getElem?_eq_getElem (l := xs) (i := i) (by omega))).1
    have h2 := (World.cells?_some this).2.2 k hk
    rw [flat_get hlen i k hk, List.getElem?_eq_getElem hi', Option.bind_some, ← h2]
    rw [Addr.add_add]
  obtain ⟨b, off, spot⟩ := a
  have h00 := hcell 0 0 hn h0
  have hfl := flat_len hlen
  have hpos : 0 < ess.flatten.length := by rw [hfl, e1]; exact Nat.mul_pos hn h0
  have hc0 : W.cell? ⟨b, off, spot⟩ = some ess.flatten[0] := by
    rw [← List.getElem?_eq_getElem hpos]
    simpa [Addr.add] using h00
  have hspot : spot = none := World.cell?_spot hc0
  subst hspot
  refine ⟨b, off, rfl, World.block_lt_of_cell? W _ hc0, fun j hj => ?_⟩
  rw [hfl, e1] at hj
  have hdm : j / sz * sz + j % sz = j := by rw [Nat.mul_comm]; exact Nat.div_add_mod j sz
  have := hcell (j / sz) (j % sz) (Nat.div_lt_of_lt_mul (by rw [Nat.mul_comm]; exact hj)) (Nat.mod_lt _ h0)
  rw [hdm] at this
  rw [← this]
  congr 1
  unfold Addr.add; split <;> simp_all
theorem opens_arr {t e : TypeId} {n : Nat} {k : IntKind} (ht : P.underlying t = some (.array n e)) (hu : P.underlying e = some (.int k)) (he : P.cellsOf e = 1) (hn : P.cellsOf t = n) : Opens P t (rdA n k) := by
  intro H enc W base spare held fuel cs y h
  cases fuel with
  | zero => simp [DataW.trod] at h
  | succ m =>
    unfold DataW.trod at h
    rw [ht] at h
    dsimp only at h
    rw [hn, he] at h
    by_cases hl : cs.length = n
    · rw [if_pos hl] at h
      simp only [Option.map_eq_some_iff] at h
      obtain ⟨xs, hp, _⟩ := h
      have key : ∀ i, i < n → ∃ (_ : Unit) (x : Int), cs[i]? = some (.int k x) ∧ (Lit.int k x).wf = true := fun i hi => by
        have h1 := mapM_some_get hp i i (by simp [hi])
        have hlt : i < xs.length := by rw [mapM_some_length hp]; simpa using hi
        rw [List.getElem?_eq_getElem hlt] at h1
        obtain ⟨z, hz⟩ := opens_int hu _ _ _ _ _ _ _ _ _ h1
        refine ⟨(), z, ?_, hz.2⟩
        have h2 : ((cs.drop (i * 1)).take 1)[0]? = some (.int k z) := by rw [hz.1]; rfl
        simpa using h2
      obtain ⟨us, zs, u1, z2, z3⟩ := pick_list (fun i (_ : Unit) (x : Int) => cs[i]? = some (.int k x) ∧ (Lit.int k x).wf = true) n key
      have hz : ∀ i (hi : i < n), cs[i]? = some (.int k (zs[i]'(by omega))) ∧ (Lit.int k (zs[i]'(by omega))).wf = true := fun i hi =>
        z3 i () _ (List.getElem?_eq_getElem (l := us) (by omega)) (List.getElem?_eq_getElem (by omega))
      refine ⟨zs, ?_, z2, fun c hc => ?_⟩
      · apply List.ext_getElem?
        intro i
        by_cases hi : i < n
        · rw [(hz i hi).1, List.getElem?_map, List.getElem?_eq_getElem (by omega)]; rfl
        · rw [List.getElem?_eq_none (by omega), List.getElem?_eq_none (by simp; omega)]
      · obtain ⟨i, hi, rfl⟩ := List.mem_iff_getElem.1 hc
        exact (hz i (by omega)).2
    · rw [if_neg hl] at h; cases h
/-- The fields of a struct, from o on. -/
inductive OpF (P : Program) : {α : Type} → List Field → Nat → Nat → Rdg α → Prop
  | one {α : Type} {f : Field} {o n : Nat} {R : Rdg α} (h1 : f.offset = o) (h2 : P.cellsOf f.type = n) (h : Opens P f.type R) : OpF P [f] o n R
  | cons {α β : Type} {f : Field} {fs : List Field} {o n m : Nat} {R : Rdg α} {S : Rdg β} (h1 : f.offset = o) (h2 : P.cellsOf f.type = n) (h : Opens P f.type R) (hs : OpF P fs (o + n) m S) : OpF P (f :: fs) o (n + m) (rdN n R S)
theorem opens_fields {α : Type} {fs : List Field} {o m : Nat} {R : Rdg α} (h : OpF P fs o m R) : ∀ {H : Type} {enc : TypeId × Value → H} {W : World} {base : Nat} {spare : Nat → Bool} {held : Bool} {fuel : Nat} {cs : List Value}, cs.length = o + m →
    (∀ (i : Nat) f, fs[i]? = some f → ∃ y, DataW.trod enc P W base spare held fuel f.type ((cs.drop f.offset).take (P.cellsOf f.type)) = some y) → ∃ x, R W (cs.drop o) x := by
  induction h with
  | @one α f o n R h1 h2 h =>
    intro H enc W base spare held fuel cs hl hf
    obtain ⟨y, hy⟩ := hf 0 _ rfl
    rw [h1, h2, List.take_of_length_le (by rw [List.length_drop]; omega)] at hy
    exact h _ _ _ _ _ _ _ _ _ hy
  | @cons α β f fs o n m R S h1 h2 h hs ih =>
    intro H enc W base spare held fuel cs hl hf
    obtain ⟨y, hy⟩ := hf 0 _ rfl
    rw [h1, h2] at hy
    obtain ⟨x1, hx1⟩ := h _ _ _ _ _ _ _ _ _ hy
    obtain ⟨x2, hx2⟩ := ih (fuel := fuel) (spare := spare) (base := base) (held := held) (enc := enc) (cs := cs) (W := W) (by omega) fun i f hf' => hf (i + 1) f hf'
    exact ⟨(x1, x2), hx1, by rw [List.drop_drop]; exact hx2⟩
theorem opens_struct {α : Type} {R : Rdg α} {t : TypeId} {fs : List Field} {m : Nat} (ht : P.underlying t = some (.struct ⟨fs⟩)) (hsz : P.cellsOf t = m) (h : OpF P fs 0 m R) : Opens P t R := by
  intro H enc W base spare held fuel cs y hy
  obtain ⟨xs, n, _, _, hl, hx, hf⟩ := DataW.trod_struct ht hy
  have := opens_fields h (enc := enc) (W := W) (base := base) (spare := spare) (held := held) (fuel := n) (cs := cs) (by omega) fun i f hf' => by
    have h1 := hf i f (by simpa using hf')
    have hi : i < xs.length := by
      have := (List.getElem?_eq_some_iff.1 hf').1
      simp at hx; omega
    rw [List.getElem?_eq_getElem hi] at h1
    exact ⟨_, h1⟩
  simpa using this
/-- An argument is opened. -/
theorem open_arg {α : Type} {R : Rdg α} {t : TypeId} (ho : Opens P t R) {H : Type} {enc : TypeId × Value → H} {W : World} {base : Nat} {spare : Nat → Bool} {held : Bool} {v : Value} {d : DataW H} {ps : List MemPlace} (h : DataW.Trod enc P W base spare held t v d ps) : ∃ x, R W v.cells.toList x := by
  obtain ⟨fuel, hf⟩ := h
  exact ho _ _ _ _ _ _ _ _ _ hf
end Go.Eng
/- The engine, part thirty-three: a slice is made; what lies in a world at first is told to a contract that only reads. Conditions: as part two. -/
namespace Go.Eng
open Go Go.RowKit

section
variable {P : Program} {tt : Nat → Option TI} [TT P tt] {ro : Option Nat} {N : Nat} {l rest : List Oper} {Q : Exit → Act → World → Prop} {E : List (Nat × Value)} {ds : List Deferred} {b : World} {F G : List SP}
  {d : Nat} {op : Op} {ty : TypeId} {pos : String} {aft : Array Edge} {g : Option (Nat × Bool)} {v : Value}
end
end Go.Eng
/- The engine, part thirty-four: a drawn region in which one new variable's block may be made at any time before its first use. Conditions: as part seven. -/
namespace Go.Eng
open Go Go.RowKit

section
variable {P : Program} {ro : Option Nat} {l : List Oper} {Q : Exit → Act → World → Prop} {S : World → Prop} {fl : Oper → Bool} {y : Nat} {oy : Oper}

/-- y now, then the others in order. -/
def AN (P : Program) (fl : Oper → Bool) (ro : Option Nat) (l : List Oper) (S : World → Prop) (Q : Exit → Act → World → Prop) (oy : Oper) (R : List Nat) (a : Act) (w : World) : Prop :=
  Eff P ro oy a w fun v w' => S w' ∧ Tx P fl ro l S Q R (a.put oy.dst v) w'
/-- The others in order, y at any time. -/
def T1 (P : Program) (fl : Oper → Bool) (ro : Option Nat) (l : List Oper) (S : World → Prop) (Q : Exit → Act → World → Prop) (y : Nat) (oy : Oper) : List Nat → Act → World → Prop
  | [], a, w => AN P fl ro l S Q oy [] a w
  | i :: R, a, w => AN P fl ro l S Q oy (i :: R) a w ∧ ((ancs l i).contains y = false → ∃ o, l[i]? = some o ∧
      (Region.wanted o (yielded l.toArray a.tmps) = true →
        (fl o = true ∧ ∃ v, (∀ W, S W → (execOp a.eval o).run P W = .ok (.value v) W) ∧ T1 P fl ro l S Q y oy R (a.put o.dst v) w) ∨
        (fl o = false ∧ Eff P ro o a w fun v w' => S w' ∧ T1 P fl ro l S Q y oy R (a.put o.dst v) w')) ∧
      (Region.wanted o (yielded l.toArray a.tmps) = false → T1 P fl ro l S Q y oy R (a.put o.dst undef) w))
theorem T1.an {R : List Nat} {a : Act} {w : World} (h : T1 P fl ro l S Q y oy R a w) : AN P fl ro l S Q oy R a w := by
  cases R with
  | nil => exact h
  | cons i R => exact h.1

theorem eff_put {o p : Oper} {a : Act} {u : Value} {w : World} {n : Value → World → Prop} (hs : noSel o = true) (h : Apart l p o) : Eff P ro o (a.put p.dst u) w n ↔ Eff P ro o a w n := by
  unfold Eff; rw [run_put hs h]

/-- What y now says, when a reading operation goes first. -/
theorem AN.first (hns : ∀ (i : Nat) (o : Oper), l[i]? = some o → noSel o = true) {i : Nat} {oi : Oper} (hi : l[i]? = some oi) (hf : fl oi = true) (hsy : noSel oy = true) (hyi : Apart l oy oi) {R1 R2 : List Nat} {a : Act} {w : World}
    (hap : ∀ r ∈ R1, ∀ p : Oper, l[(r : Nat)]? = some p → Apart l p oi) (h : AN P fl ro l S Q oy (R1 ++ i :: R2) a w) :
    ∃ v, Fl P l S oi a v ∧ AN P fl ro l S Q oy (R1 ++ R2) (a.put oi.dst v) w := by
  obtain ⟨g0, w0, hS0, ht0⟩ := h.some
  obtain ⟨v, hv, _⟩ := Tx.first hns hi hf R1 _ w0 hap hS0 ht0
  have hsi := hns _ _ hi
  have hv := (Fl.put hsi hyi).1 hv
  refine ⟨v, hv, ?_⟩
  unfold AN
  rw [eff_put hsy hyi.symm]
  refine Eff.mono h ?_
  rintro g w' ⟨hS', ht'⟩
  obtain ⟨v', hv', ht''⟩ := Tx.first hns hi hf R1 _ w' hap hS' ht'
  have hv' := (Fl.put hsi hyi).1 hv'
  have := Fl.unique hS' hv hv'
  subst this
  refine ⟨hS', ?_⟩
  rw [put_put hyi.symm]; exact ht''

theorem T1.first (hns : ∀ (i : Nat) (o : Oper), l[i]? = some o → noSel o = true) {i : Nat} {oi : Oper} (hi : l[i]? = some oi) (hf : fl oi = true) (hsy : noSel oy = true) (hyi : Apart l oy oi) (hyd : (ancs l i).contains y = false) {R2 : List Nat} :
    ∀ (R1 : List Nat) (a : Act) (w : World), (∀ r ∈ R1, ∀ p : Oper, l[(r : Nat)]? = some p → Apart l p oi) → S w → T1 P fl ro l S Q y oy (R1 ++ i :: R2) a w →
      ∃ v, Fl P l S oi a v ∧ T1 P fl ro l S Q y oy (R1 ++ R2) (a.put oi.dst v) w := by
  intro R1
  induction R1 with
  | nil =>
    intro a w _ hS h
    simp only [List.nil_append] at h ⊢
    obtain ⟨o, ho, hw, hn⟩ := h.2 hyd
    rw [hi] at ho
    cases ho
    cases hwant : Region.wanted oi (yielded l.toArray a.tmps) with
    | true =>
      rcases hw hwant with ⟨_, v, hv, ht⟩ | ⟨hff, _⟩
      · exact ⟨v, ⟨fun _ => hv, fun hc => (by rw [hwant] at hc; cases hc)⟩, ht⟩
      · rw [hf] at hff; cases hff
    | false => exact ⟨undef, ⟨fun hc => (by rw [hwant] at hc; cases hc), fun _ => rfl⟩, hn hwant⟩
  | cons r R1 ih =>
    intro a w hap hS h
    have hap' : ∀ r ∈ R1, ∀ p : Oper, l[(r : Nat)]? = some p → Apart l p oi := fun r hr => hap r (List.mem_cons_of_mem _ hr)
    obtain ⟨v0, hv0, han⟩ := AN.first hns hi hf hsy hyi (R1 := r :: R1) hap h.1
    have hsi := hns _ _ hi
    refine ⟨v0, hv0, han, fun hdr => ?_⟩
    obtain ⟨p, hp, hw, hn⟩ := h.2 hdr
    have hapr := hap r List.mem_cons_self p hp
    have hsp := hns _ _ hp
    cases hwant : Region.wanted p (yielded l.toArray a.tmps) with
    | false =>
      obtain ⟨v, hv, ht⟩ := ih _ w hap' hS (hn hwant)
      have hv := (Fl.put hsi hapr).1 hv
      have := Fl.unique hS hv0 hv
      subst this
      refine ⟨p, hp, fun hc => ?_, fun _ => ?_⟩
      · rw [want_put hapr.symm, hwant] at hc; cases hc
      · rw [put_put hapr.symm]; exact ht
    | true =>
      rcases hw hwant with ⟨hfp, u, hu, ht0⟩ | ⟨hfp, he⟩
      · obtain ⟨v, hv, ht⟩ := ih _ w hap' hS ht0
        have hv := (Fl.put hsi hapr).1 hv
        have := Fl.unique hS hv0 hv
        subst this
        refine ⟨p, hp, fun _ => .inl ⟨hfp, u, ?_, ?_⟩, fun hc => ?_⟩
        · rw [run_put hsp hapr.symm]; exact hu
        · rw [put_put hapr.symm]; exact ht
        · rw [want_put hapr.symm, hwant] at hc; cases hc
      · refine ⟨p, hp, fun _ => .inr ⟨hfp, ?_⟩, fun hc => ?_⟩
        · rw [eff_put hsp hapr.symm]
          refine he.mono ?_
          rintro u w' ⟨hS', ht'⟩
          obtain ⟨v', hv', ht''⟩ := ih _ w' hap' hS' ht'
          have hv' := (Fl.put hsi hapr).1 hv'
          have := Fl.unique hS' hv0 hv'
          subst this
          refine ⟨hS', ?_⟩
          rw [put_put hapr.symm]; exact ht''
        · rw [want_put hapr.symm, hwant] at hc; cases hc

theorem T1.over (hns : ∀ (i : Nat) (o : Oper), l[i]? = some o → noSel o = true) {i : Nat} {oi : Oper} (hi : l[i]? = some oi) (hf : fl oi = false) (hsy : noSel oy = true) (hyd : (ancs l i).contains y = false) {R2 : List Nat} :
    ∀ (R1 : List Nat) (a : Act) (w : World), (∀ r ∈ R1, (ancs l r).contains y = false ∧ ∀ p : Oper, l[(r : Nat)]? = some p → Apart l p oi ∧ fl p = true ∧ Apart l oy p) → S w → T1 P fl ro l S Q y oy (R1 ++ i :: R2) a w →
      (Region.wanted oi (yielded l.toArray a.tmps) = true → Eff P ro oi a w fun v w' => S w' ∧ T1 P fl ro l S Q y oy (R1 ++ R2) (a.put oi.dst v) w') ∧
      (Region.wanted oi (yielded l.toArray a.tmps) = false → T1 P fl ro l S Q y oy (R1 ++ R2) (a.put oi.dst undef) w) := by
  intro R1
  induction R1 with
  | nil =>
    intro a w _ _ h
    simp only [List.nil_append] at h ⊢
    obtain ⟨o, ho, hw, hn⟩ := h.2 hyd
    rw [hi] at ho
    cases ho
    refine ⟨fun hwant => ?_, hn⟩
    rcases hw hwant with ⟨hff, _⟩ | ⟨_, he⟩
    · rw [hf] at hff; cases hff
    · exact he
  | cons r R1 ih =>
    intro a w hap hS h
    obtain ⟨hdr, hapr0⟩ := hap r List.mem_cons_self
    obtain ⟨p, hp, hw, hn⟩ := h.2 hdr
    obtain ⟨hapr, hfp, hyp⟩ := hapr0 p hp
    have hap' : ∀ r ∈ R1, (ancs l r).contains y = false ∧ ∀ p : Oper, l[(r : Nat)]? = some p → Apart l p oi ∧ fl p = true ∧ Apart l oy p := fun r hr => hap r (List.mem_cons_of_mem _ hr)
    have hsp := hns _ _ hp
    have hsi := hns _ _ hi
    -- p reads: its value, and what is left when it has run
    have key : ∃ u, Fl P l S p a u ∧ T1 P fl ro l S Q y oy (R1 ++ i :: R2) (a.put p.dst u) w := by
      cases hwant : Region.wanted p (yielded l.toArray a.tmps) with
      | false => exact ⟨undef, ⟨fun hc => (by rw [hwant] at hc; cases hc), fun _ => rfl⟩, hn hwant⟩
      | true =>
        rcases hw hwant with ⟨_, u, hu, ht0⟩ | ⟨hff, _⟩
        · exact ⟨u, ⟨fun _ => hu, fun hc => (by rw [hwant] at hc; cases hc)⟩, ht0⟩
        · rw [hfp] at hff; cases hff
    obtain ⟨u, hu, ht⟩ := key
    obtain ⟨h1, h2⟩ := ih _ w hap' hS ht
    rw [want_put hapr] at h1 h2
    -- back: p is laid ahead again
    have back : ∀ v w', S w' → T1 P fl ro l S Q y oy (R1 ++ R2) ((a.put p.dst u).put oi.dst v) w' → T1 P fl ro l S Q y oy (r :: (R1 ++ R2)) (a.put oi.dst v) w' := by
      intro v w' hS' ht'
      rw [← put_put hapr.symm] at ht'
      have hu' : Fl P l S p (a.put oi.dst v) u := (Fl.put hsp hapr.symm).2 hu
      refine ⟨?_, fun _ => ⟨p, hp, fun hc => .inl ⟨hfp, u, hu'.1 hc, ht'⟩, fun hc => ?_⟩⟩
      · have han := ht'.an
        unfold AN at han ⊢
        rw [eff_put hsy hyp.symm] at han
        refine han.mono ?_
        rintro g w2 ⟨hS2, hT⟩
        refine ⟨hS2, p, hp, fun hc => .inl ⟨hfp, u, ?_, ?_⟩, fun hc => ?_⟩
        · rw [run_put hsp hyp]
          rw [want_put hyp] at hc
          exact hu'.1 hc
        · rw [put_put hyp]; exact hT
        · rw [want_put hyp] at hc
          have := hu'.2 hc
          subst this
          rw [put_put hyp]; exact hT
      · have := hu'.2 hc
        subst this
        exact ht'
    refine ⟨fun hwi => ?_, fun hwi => back _ _ hS (h2 hwi)⟩
    have he := h1 hwi
    rw [eff_put hsi hapr] at he
    exact he.mono fun v w' ⟨hS', ht'⟩ => ⟨hS', back _ _ hS' ht'⟩

/-- May the region be walked in the order of the text, y at any time before its first use? -/
def okFloat (fl : Oper → Bool) (y : Nat) (l : List Oper) : Bool :=
  let an := ancT l []
  okBack l && (match l[y]? with | some oy => oy.guard.isNone | none => false) &&
  (List.range l.length).all fun i => Nat.beq i y || match l[i]?, l[y]? with
    | some o, some oy => ((an.getD i []).contains y || (oy.apart l.toArray o && o.apart l.toArray oy)) &&
      ((List.range i).all fun j => Nat.beq j y || match l[j]? with
        | none => true
        | some p => ((an.getD i []).contains j || (p.apart l.toArray o && o.apart l.toArray p && (fl o || fl p))) && (fl o || (an.getD i []).contains y || !(an.getD j []).contains y))
    | _, _ => false
theorem okFloat_at (h : okFloat fl y l = true) {i : Nat} {o : Oper} (ho : l[i]? = some o) (hne : i ≠ y) : ∃ oy, l[y]? = some oy ∧ oy.guard = none ∧ (y ∈ ancs l i ∨ Apart l oy o) ∧
    ∀ j p, j < i → j ≠ y → l[j]? = some p → (j ∈ ancs l i ∨ (Apart l p o ∧ (fl o = true ∨ fl p = true))) ∧ (fl o = true ∨ y ∈ ancs l i ∨ (ancs l j).contains y = false) := by
  simp only [okFloat, Bool.and_eq_true] at h
  obtain ⟨⟨_, h1⟩, h2⟩ := h
  have hlt : i < l.length := (List.getElem?_eq_some_iff.1 ho).1
  have h3 := List.all_eq_true.1 h2 i (List.mem_range.2 hlt)
  have hb : Nat.beq i y = false := by
    cases hb : Nat.beq i y with
    | false => rfl
    | true => exact absurd (Nat.eq_of_beq_eq_true hb) hne
  cases hy : l[y]? with
  | none => rw [hy] at h1; cases h1
  | some oy =>
    rw [hy] at h1
    simp only [ho, hy, hb, Bool.false_or, Bool.and_eq_true, Bool.or_eq_true] at h3
    refine ⟨oy, rfl, by simpa using h1, ?_, fun j p hj hjy hp => ?_⟩
    · rcases h3.1 with h4 | ⟨h4, h5⟩
      · exact .inl (List.contains_iff_mem.1 h4)
      · exact .inr ⟨h4, h5⟩
    · have h4 := List.all_eq_true.1 h3.2 j (List.mem_range.2 hj)
      have hb2 : Nat.beq j y = false := by
        cases hb : Nat.beq j y with
        | false => rfl
        | true => exact absurd (Nat.eq_of_beq_eq_true hb) hjy
      simp only [hp, hb2, Bool.false_or, Bool.and_eq_true, Bool.or_eq_true, Bool.not_eq_true'] at h4
      refine ⟨?_, ?_⟩
      · rcases h4.1 with h5 | ⟨⟨h5, h6⟩, h7⟩
        · exact .inl (List.contains_iff_mem.1 h5)
        · exact .inr ⟨⟨h5, h6⟩, h7⟩
      · rcases h4.2 with (h5 | h5) | h5
        · exact .inl h5
        · exact .inr (.inl (List.contains_iff_mem.1 h5))
        · exact .inr (.inr h5)
def others (l : List Oper) (y : Nat) : List Nat := (List.range l.length).filter fun i => !Nat.beq i y
theorem mem_others {i : Nat} : i ∈ others l y ↔ i < l.length ∧ i ≠ y := by
  simp only [others, List.mem_filter, List.mem_range, Bool.not_eq_true']
  refine ⟨fun ⟨h1, h2⟩ => ⟨h1, fun e => ?_⟩, fun ⟨h1, h2⟩ => ⟨h1, ?_⟩⟩
  · subst e; rw [Nat.beq_refl] at h2; cases h2
  · cases hb : Nat.beq i y with
    | false => rfl
    | true => exact absurd (Nat.eq_of_beq_eq_true hb) h2
theorem region_float (hok : okFloat fl y l = true) (hy : l[y]? = some oy) (hm : P.follows .mixedOrders = true) {id : Nat} {a : Act} {w : World} (hS : S w.drew)
    (h : T1 P fl ro l S Q y oy (others l y) a w.drew) : (Code.region id l.toArray true).wpIn (FR ro) 0 P Q a w := by
  have hb : okBack l = true := by simp only [okFloat, Bool.and_eq_true] at hok; exact hok.1.1
  have hns := okBack_ns hb
  have hsy := hns _ _ hy
  have hgy : oy.guard = none := by
    simp only [okFloat, Bool.and_eq_true, hy] at hok
    simpa using hok.1.2
  have hyl : y < l.length := (List.getElem?_eq_some_iff.1 hy).1
  have hpw : (others l y).Pairwise (· < ·) := List.pairwise_lt_range.filter _
  have hnd : (others l y).Nodup := hpw.imp fun h => Nat.ne_of_lt h
  let I : Array Bool → Act → World → Prop := fun listed a w => S w ∧ ((listed.getD y false = true ∧ Tx P fl ro l S Q (rest (others l y) listed) a w) ∨ (listed.getD y false = false ∧ T1 P fl ro l S Q y oy (rest (others l y) listed) a w))
  refine region_inv hb hm I ?_ ?_ ?_
  · refine ⟨hS, .inr ⟨?_, ?_⟩⟩
    · rw [Array.getD_eq_getD_getElem?, Array.getElem?_replicate]; split <;> rfl
    · have : rest (others l y) (Array.replicate l.length false) = others l y := by
        unfold rest
        rw [List.filter_eq_self]
        intro i hi
        have := (mem_others.1 hi).1
        simp [this]
      rw [this]; exact h
  · intro listed a w i o hsz hcl hI ho hf hdeps
    have hlt : i < l.length := (List.getElem?_eq_some_iff.1 ho).1
    obtain ⟨hSw, hI⟩ := hI
    by_cases hiy : i = y
    · subst hiy
      rw [hy] at ho; cases ho
      have hT : T1 P fl ro l S Q i oy (rest (others l i) listed) a w := by
        rcases hI with ⟨h1, _⟩ | ⟨_, h1⟩
        · rw [hf] at h1; cases h1
        · exact h1
      have hwant : Region.wanted oy (yielded l.toArray a.tmps) = true := by simp [Region.wanted, hgy]
      refine ⟨fun _ => hT.an.mono ?_, fun hc => by rw [hwant] at hc; cases hc⟩
      rintro v w' ⟨hS', hT'⟩
      refine ⟨hS', .inl ⟨?_, ?_⟩⟩
      · rw [Array.getD_eq_getD_getElem?, Array.getElem?_setIfInBounds, if_pos rfl, if_pos (by omega)]; rfl
      · have : rest (others l i) (listed.setIfInBounds i true) = rest (others l i) listed := by
          unfold rest
          apply List.filter_congr
          intro j hj
          rw [getD_set_ne true (Ne.symm (mem_others.1 hj).2)]
        rw [this]; exact hT'
    · have hio : i ∈ others l y := mem_others.2 ⟨hlt, hiy⟩
      have hft : listed.getD i true = false := by rw [getD_both (by omega)]; exact hf
      have hancl : ∀ r ∈ ancs l i, listed.getD r false = true := fun r hr => ancT_sound hcl l [] [] rfl rfl (fun i o h => by simp at h) i o ho hdeps r hr
      have hyk : (listed.setIfInBounds i true).getD y false = listed.getD y false := getD_set_ne false hiy
      obtain ⟨oy', hy', _, hay, hpairs⟩ := okFloat_at hok ho hiy
      rw [hy] at hy'; cases hy'
      have hanc : ∀ r, r < i → listed.getD r true = false → r ∈ others l y → ∀ p : Oper, l[(r : Nat)]? = some p → Apart l p o ∧ (fl o = true ∨ fl p = true) := fun r hr hu hro p hp => by
        rcases (hpairs r p hr (mem_others.1 hro).2 hp).1 with h1 | h1
        · have := hancl r h1
          rw [getD_both (by have := (mem_others.1 hro).1; omega)] at hu
          rw [this] at hu; cases hu
        · exact h1
      rcases hI with ⟨hyl2, hT⟩ | ⟨hyl2, hT⟩
      · obtain ⟨h1, h2⟩ := step_of_Tx (fl := fl) hns hnd hpw hio ho (by omega) hft hanc hSw hT
        exact ⟨fun hw => (h1 hw).mono fun v w' ⟨hS', ht⟩ => ⟨hS', .inl ⟨hyk.trans hyl2, ht⟩⟩, fun hw => ⟨hSw, .inl ⟨hyk.trans hyl2, h2 hw⟩⟩⟩
      · have hyi : y ∉ ancs l i := fun hm => by have := hancl y hm; rw [hyl2] at this; cases this
        have hyd : (ancs l i).contains y = false := by
          cases hc : (ancs l i).contains y with
          | false => rfl
          | true => exact absurd (List.contains_iff_mem.1 hc) hyi
        have hayo := hay.resolve_left hyi
        obtain ⟨R1, R2, hs1, hs2, hs3⟩ := filter_split (p := fun j => !listed.getD j true) hnd hio (by simp [hft]) hpw
        have hleft' : rest (others l y) (listed.setIfInBounds i true) = R1 ++ R2 := by
          rw [← hs3]
          unfold rest
          apply List.filter_congr
          intro j _
          by_cases hij : i = j
          · subst hij
            simp [show i < listed.size by omega]
          · rw [getD_set_ne true hij]
            simp [Ne.symm hij]
        have hmem : ∀ r ∈ R1, r ∈ others l y := fun r hr => by
          have : r ∈ (others l y).filter (fun j => !listed.getD j true) := by rw [hs1]; exact List.mem_append_left _ hr
          exact (List.mem_filter.1 this).1
        unfold rest at hT
        rw [hs1] at hT
        have fin : ∀ v w', S w' → T1 P fl ro l S Q y oy (R1 ++ R2) (a.put o.dst v) w' → I (listed.setIfInBounds i true) (a.put o.dst v) w' := fun v w' hS' ht => ⟨hS', .inr ⟨hyk.trans hyl2, by rw [hleft']; exact ht⟩⟩
        cases hfo : fl o with
        | true =>
          obtain ⟨v, hv, ht⟩ := T1.first hns ho hfo hsy hayo hyd R1 a w (fun r hr p hp => (hanc r (hs2 r hr).1 (by simpa using (hs2 r hr).2) (hmem r hr) p hp).1) hSw hT
          refine ⟨fun hw => ?_, fun hw => ?_⟩
          · unfold Eff
            rw [hv.1 hw w hSw]
            exact fin _ _ hSw ht
          · rw [hv.2 hw] at ht; exact fin _ _ hSw ht
        | false =>
          obtain ⟨h1, h2⟩ := T1.over hns ho hfo hsy hyd R1 a w (fun r hr => by
            have hr1 := (hs2 r hr).1
            have hr2 : listed.getD r true = false := by simpa using (hs2 r hr).2
            have hro := mem_others.1 (hmem r hr)
            have hrd : (ancs l r).contains y = false := by
              have hpr : l[r]? = some l[r] := List.getElem?_eq_getElem hro.1
              rcases (hpairs r l[r] hr1 hro.2 hpr).2 with h3 | h3 | h3
              · rw [hfo] at h3; cases h3
              · exact absurd h3 hyi
              · exact h3
            refine ⟨hrd, fun p hp => ?_⟩
            obtain ⟨h3, h4⟩ := hanc r hr1 hr2 (hmem r hr) p hp
            refine ⟨h3, h4.resolve_left (by rw [hfo]; simp), ?_⟩
            obtain ⟨oy2, hy2, _, hay2, _⟩ := okFloat_at hok hp hro.2
            rw [hy] at hy2; cases hy2
            exact hay2.resolve_left fun hm => by rw [List.contains_iff_mem.2 hm] at hrd; cases hrd) hSw hT
          exact ⟨fun hw => (h1 hw).mono fun v w' ⟨hS', ht⟩ => fin _ _ hS' ht, fun hw => fin _ _ hSw (h2 hw)⟩
  · intro listed a w hsz hI hall
    obtain ⟨_, hI⟩ := hI
    rcases hI with ⟨_, hT⟩ | ⟨h1, _⟩
    · have : rest (others l y) listed = [] := by
        unfold rest
        rw [List.filter_eq_nil_iff]
        intro k hk
        have hkl := (mem_others.1 hk).1
        rw [getD_both (by omega), hall k hkl]
        simp
      rw [this] at hT
      exact hT
    · rw [hall y hyl] at h1; cases h1
end
end Go.Eng
/- The engine, part thirty-five: walking a drawn region in which one new variable's block may be made at any time. Conditions: as part seven. -/
namespace Go.Eng
open Go Go.RowKit

/-- y is the making of a variable. -/
structure Fy (P : Program) (tt : Nat → Option TI) (l : List Oper) (N y dy t : Nat) (zs : List Value) (oy : Oper) : Prop where
  at' : l[y]? = some oy
  op : oy.op = .alloc t
  dst : oy.dst = some dy
  gd : oy.guard = none
  lt : dy < N
  ti : ∃ i, tt t = some i ∧ zlist i.zero = some zs
def am (t : Nat) (zs : List Value) : Option Nat → List SP
  | none => []
  | some g => [pt g t zs]
def ix (y k n : Nat) : List Nat := (List.range' k n).filter fun i => !Nat.beq i y
theorem ix_cons {y k n : Nat} (h : Nat.beq k y = false) : ix y k (n + 1) = k :: ix y (k + 1) n := by simp only [ix, List.range'_succ]; rw [List.filter_cons_of_pos (by rw [h]; rfl)]
theorem ix_skip {y n : Nat} : ix y y (n + 1) = ix y (y + 1) n := by simp only [ix, List.range'_succ]; rw [List.filter_cons_of_neg (by simp)]
theorem ix_all {y k n : Nat} (h : Nat.blt y k = true) : ix y k n = List.range' k n := by
  unfold ix
  rw [List.filter_eq_self]
  intro i hi
  have h1 := (List.mem_range'_1.1 hi).1
  have h2 : y < k := Nat.le_of_ble_eq_true h
  cases hb : Nat.beq i y with
  | false => rfl
  | true => have := Nat.eq_of_beq_eq_true hb; omega

section
variable {P : Program} {tt : Nat → Option TI} [TT P tt] {ro : Option Nat} {N : Nat} {l rest : List Oper} {Q : Exit → Act → World → Prop} {E : List (Nat × Value)} {ds : List Deferred} {b : World} {F F0 G : List SP} {fl : Oper → Bool} {k : Nat}
  {y dy t : Nat} {zs : List Value} {oy o : Oper}

structure SV (P : Program) (tt : Nat → Option TI) (fl : Oper → Bool) (ro : Option Nat) (N : Nat) (F0 : List SP) (y dy t : Nat) (zs : List Value) (oy : Oper) (l : List Oper) (k : Nat) (rest : List Oper) (Q : Exit → Act → World → Prop) (E : List (Nat × Value)) (ds : List Deferred) (b : World) (F : List SP) : Prop where
  run : Fy P tt l N y dy t zs oy → ∀ (m : Option Nat) (w : World), Sat b (F ++ am t zs m) w → Sat b F0 w → ∀ a, Kn N E a → (∀ g, m = some g → a.tmps[dy]? = some (.pointer (some ⟨g, 0, none⟩))) → a.defers = ds → (∀ j : Nat, j < rest.length → rest[j]? = l[k + j]?) →
    (m = none → T1 P fl ro l (Sat b F0) Q y oy (ix y k rest.length) a w) ∧ (m.isSome = true → Tx P fl ro l (Sat b F0) Q (ix y k rest.length) a w)

theorem ent_pre (A : List SP) : Ent (F ++ A) F := by
  rintro m ⟨H, a, b, c⟩
  refine ⟨H, a, b, fun i X hX => c i X ?_⟩
  rw [nth_append]
  have : i < F.length := by rw [nth_eq] at hX; exact (List.getElem?_eq_some_iff.1 hX).1
  rw [if_pos this]; exact hX
/-- The alloc, at whatever time. -/
theorem fy_eff (hy : Fy P tt l N y dy t zs oy) {a : Act} {w : World} (H : Sat b F w) (H0 : Sat b F0 w) {n : Value → World → Prop} (h : ∀ g w', Sat b (F ++ [pt g t zs]) w' → Sat b F0 w' → n (.pointer (some ⟨g, 0, none⟩)) w') : Eff P ro oy a w n := by
  obtain ⟨i, ht, hz⟩ := hy.ti
  have hx := ex_alloc (P := P) (E := []) (ty := oy.type) (w := w) ht
  unfold Eff
  have hev : ∀ x u, ev ([] : List (Nat × Value)) x = some u → a.eval x = u := fun x u hxu => by
    cases x with
    | tmp t => simp [ev, look] at hxu
    | const v => simp [ev] at hxu; subst hxu; rfl
    | global g => simp [ev] at hxu; subst hxu; rfl
    | func f => simp [ev] at hxu; subst hxu; rfl
  rw [hx a.eval oy hev hy.op rfl]
  have hB := Blk.new w t i.zero.cells.toList
  rw [zlist_eq hz] at hB
  have e : zs.toArray = i.zero.cells := by rw [← zlist_eq hz]
  rw [e] at hB
  have hE := Fr.alloc (S := fun _ => False) w (.cells i.zero.cells t)
  refine h _ _ ((H.alloc hE hB (Nat.le_refl _)).ent (ent_perm (List.perm_append_singleton _ _).symm)) (H0.ext hE)
theorem put_other {a : Act} {d : Nat} {v u : Value} (hd : Nat.beq d dy = false) (h : a.tmps[dy]? = some u) : (a.put (some d) v).tmps[dy]? = some u := by
  have hne : d ≠ dy := fun e => by subst e; rw [Nat.beq_refl] at hd; cases hd
  simp only [Act.put]
  rw [Array.getElem?_setIfInBounds_ne hne]
  exact h
theorem kn_dy {E : List (Nat × Value)} {a : Act} (hk : Kn N E a) (hE : look E dy = none) (v : Value) : Kn N E (a.put (some dy) v) := by
  refine ⟨by simp [Act.put, hk.1], fun i u hi => ?_⟩
  have hne : dy ≠ i := fun e => by subst e; rw [hE] at hi; cases hi
  simp only [Act.put]
  rw [Array.getElem?_setIfInBounds_ne hne]
  exact hk.2 i u hi
def Tm (P : Program) (fl : Oper → Bool) (ro : Option Nat) (l : List Oper) (S : World → Prop) (Q : Exit → Act → World → Prop) (y : Nat) (oy : Oper) (R : List Nat) (m : Option Nat) (a : Act) (w : World) : Prop :=
  (m = none → T1 P fl ro l S Q y oy R a w) ∧ (m.isSome = true → Tx P fl ro l S Q R a w)
def Hd (P : Program) (fl : Oper → Bool) (ro : Option Nat) (l : List Oper) (S : World → Prop) (Q : Exit → Act → World → Prop) (y : Nat) (oy : Oper) (k : Nat) (R : List Nat) (m : Option Nat) (a : Act) (w : World) : Prop :=
  ∃ o, l[k]? = some o ∧ (Region.wanted o (yielded l.toArray a.tmps) = true →
    (fl o = true ∧ ∃ v, (∀ W, S W → (execOp a.eval o).run P W = .ok (.value v) W) ∧ Tm P fl ro l S Q y oy R m (a.put o.dst v) w) ∨
    (fl o = false ∧ Eff P ro o a w fun v w' => S w' ∧ Tm P fl ro l S Q y oy R m (a.put o.dst v) w')) ∧
    (Region.wanted o (yielded l.toArray a.tmps) = false → Tm P fl ro l S Q y oy R m (a.put o.dst undef) w)
/-- One operation ahead of the others. -/
theorem sv_cons (hky : Nat.beq k y = false) (hE : look E dy = none)
    (hs : Fy P tt l N y dy t zs oy → ∀ (m : Option Nat) (w : World), Sat b (F ++ am t zs m) w → Sat b F0 w → ∀ a, Kn N E a → (∀ g, m = some g → a.tmps[dy]? = some (.pointer (some ⟨g, 0, none⟩))) → a.defers = ds →
      l[k]? = some o → (∀ j : Nat, j < rest.length → rest[j]? = l[(k + 1) + j]?) → Hd P fl ro l (Sat b F0) Q y oy k (ix y (k + 1) rest.length) m a w) :
    SV P tt fl ro N F0 y dy t zs oy l k (o :: rest) Q E ds b F := by
  constructor
  intro hy
  have hsome : ∀ g w, Sat b (F ++ [pt g t zs]) w → Sat b F0 w → ∀ a, Kn N E a → a.tmps[dy]? = some (.pointer (some ⟨g, 0, none⟩)) → a.defers = ds → (∀ j : Nat, j < (o :: rest).length → (o :: rest)[j]? = l[k + j]?) → Tx P fl ro l (Sat b F0) Q (ix y k (rest.length + 1)) a w := by
    intro g w H H0 a hk hsl hd hl
    obtain ⟨ho, hl'⟩ := dw_tail hl
    obtain ⟨o', ho', h1, h2⟩ := hs hy (some g) w H H0 a hk (fun g' e => by cases e; exact hsl) hd ho hl'
    rw [ix_cons hky]
    refine ⟨o', ho', fun hw => ?_, fun hw => (h2 hw).2 rfl⟩
    rcases h1 hw with ⟨hf, v, hv, hT⟩ | ⟨hf, he⟩
    · exact .inl ⟨hf, v, hv, hT.2 rfl⟩
    · exact .inr ⟨hf, he.mono fun v w' ⟨hS', hT⟩ => ⟨hS', hT.2 rfl⟩⟩
  intro m w H H0 a hk hsl hd hl
  cases m with
  | some g => exact ⟨(fun h => by cases h), fun _ => hsome g w H H0 a hk (hsl g rfl) hd hl⟩
  | none =>
    refine ⟨fun _ => ?_, (fun h => by cases h)⟩
    obtain ⟨ho, hl'⟩ := dw_tail hl
    have hF : Sat b F w := H.ent (ent_pre _)
    have hAN : AN P fl ro l (Sat b F0) Q oy (ix y k (rest.length + 1)) a w := fy_eff hy hF H0 fun g w' H1 H2 => by
      refine ⟨H2, ?_⟩
      rw [hy.dst]
      refine hsome g w' H1 H2 _ (kn_dy hk hE _) ?_ (by rw [put_defers']; exact hd) hl
      simp only [Act.put]
      rw [Array.getElem?_setIfInBounds_self_of_lt (by rw [hk.1]; exact hy.lt)]
    show T1 P fl ro l (Sat b F0) Q y oy (ix y k (rest.length + 1)) a w
    rw [ix_cons hky] at hAN ⊢
    refine ⟨hAN, fun _ => ?_⟩
    obtain ⟨o', ho', h1, h2⟩ := hs hy none w H H0 a hk hsl hd ho hl'
    refine ⟨o', ho', fun hw => ?_, fun hw => (h2 hw).1 rfl⟩
    rcases h1 hw with ⟨hf, v, hv, hT⟩ | ⟨hf, he⟩
    · exact .inl ⟨hf, v, hv, hT.1 rfl⟩
    · exact .inr ⟨hf, he.mono fun v w' ⟨hS', hT⟩ => ⟨hS', hT.1 rfl⟩⟩

variable {d : Nat} {op : Op} {ty : TypeId} {pos : String} {aft : Array Edge} {g : Option (Nat × Bool)} {v : Value}
theorem sv_skip (hky : Nat.beq k y = false) (hE : look E dy = none) (hdy : Nat.beq d dy = false) (hg : wants l E g = some false) (hd : Nat.blt d N = true) (h : SV P tt fl ro N F0 y dy t zs oy l (k + 1) rest Q ((d, undef) :: E) ds b F) :
    SV P tt fl ro N F0 y dy t zs oy l k (⟨some d, op, ty, pos, aft, g⟩ :: rest) Q E ds b F := sv_cons hky hE fun hy m w H H0 a hk hsl hds ho hl => by
  have hw := wanted_of (o := ⟨some d, op, ty, pos, aft, g⟩) hk hg
  refine ⟨_, ho, fun hc => ?_, fun _ => h.run hy m w H H0 _ (hk.put hd) (fun g' e => put_other hdy (hsl g' e)) (by rw [put_defers']; exact hds) hl⟩
  rw [hw] at hc; cases hc
theorem sv_rd (hky : Nat.beq k y = false) (hE : look E dy = none) (hdy : Nat.beq d dy = false) (hg : wants l E g = some true) (hf : fl ⟨some d, op, ty, pos, aft, g⟩ = true) (hx : ∀ W, Sat b F0 W → Ex P E op ty W v W) (hd : Nat.blt d N = true)
    (h : SV P tt fl ro N F0 y dy t zs oy l (k + 1) rest Q ((d, v) :: E) ds b F) : SV P tt fl ro N F0 y dy t zs oy l k (⟨some d, op, ty, pos, aft, g⟩ :: rest) Q E ds b F := sv_cons hky hE fun hy m w H H0 a hk hsl hds ho hl => by
  have hw := wanted_of (o := ⟨some d, op, ty, pos, aft, g⟩) hk hg
  refine ⟨_, ho, fun _ => .inl ⟨hf, v, fun W hW => hx W hW a.eval _ hk.hyp rfl rfl, h.run hy m w H H0 _ (hk.put hd) (fun g' e => put_other hdy (hsl g' e)) (by rw [put_defers']; exact hds) hl⟩, fun hc => ?_⟩
  rw [hw] at hc; cases hc
theorem sv_pu (hky : Nat.beq k y = false) (hE : look E dy = none) (hdy : Nat.beq d dy = false) (hg : wants l E g = some true) (hx : Pu P E op ty v) (hf : fl ⟨some d, op, ty, pos, aft, g⟩ = true) (hd : Nat.blt d N = true)
    (h : SV P tt fl ro N F0 y dy t zs oy l (k + 1) rest Q ((d, v) :: E) ds b F) : SV P tt fl ro N F0 y dy t zs oy l k (⟨some d, op, ty, pos, aft, g⟩ :: rest) Q E ds b F := sv_rd hky hE hdy hg hf (fun W _ => hx W) hd h
theorem sv_1 (hky : Nat.beq k y = false) (hE : look E dy = none) (hdy : Nat.beq d dy = false) (h1 : step1 tt N l E o = some (d, v)) (hf : fl o = true ∨ wants l E o.guard = some false) (h : SV P tt fl ro N F0 y dy t zs oy l (k + 1) rest Q ((d, v) :: E) ds b F) : SV P tt fl ro N F0 y dy t zs oy l k (o :: rest) Q E ds b F := by
  obtain ⟨op, ty, pos, aft, g, rfl, h2, ⟨h3, h4⟩ | ⟨h3, rfl⟩⟩ := step1_inv h1
  · rcases hf with hf | hf
    · exact sv_pu hky hE hdy h3 (pevx_sound h4) hf h2 h
    · rw [h3] at hf; cases hf
  · exact sv_skip hky hE hdy h3 h2 h
theorem sv_2 {c : Prop} (hky : Nat.beq k y = false) (hE : look E dy = none) (hdy : Nat.beq d dy = false) (h1 : step2 tt N l E o = some (d, c, v)) (hf : fl o = true) (hc : c) (h : SV P tt fl ro N F0 y dy t zs oy l (k + 1) rest Q ((d, v) :: E) ds b F) : SV P tt fl ro N F0 y dy t zs oy l k (o :: rest) Q E ds b F := by
  obtain ⟨op, ty, pos, aft, g, rfl, h2, h3, h4⟩ := step2_inv h1
  exact sv_pu hky hE hdy h3 (pevy_sound h4 hc) hf h2 h
theorem sv_l {g' off t0 : Nat} {cs : List Value} {m : Option Nat} (q : Nat) (hky : Nat.beq k y = false) (hE : look E dy = none) (hdy : Nat.beq d dy = false) (h1 : ldv tt N l E o = some (d, g', off, m)) (hF : nth F0 q = some (pt g' t0 cs)) (hv : cellv cs off m = some v) (hf : fl o = true)
    (h : SV P tt fl ro N F0 y dy t zs oy l (k + 1) rest Q ((d, v) :: E) ds b F) : SV P tt fl ro N F0 y dy t zs oy l k (o :: rest) Q E ds b F := by
  obtain ⟨t, x, ty, pos, aft, g, i, rfl, h2, h3, h4, h5, h6⟩ := ldv_inv h1
  exact sv_rd hky hE hdy h3 hf (ld_ex q h4 h5 h6 hF hv) h2 h
/-- A call. -/
theorem sv_call {f : FuncId} {args : List Value} {R : Value → List SP → Prop} (hky : Nat.beq k y = false) (hE : look E dy = none) (hdy : Nat.beq d dy = false) (hg : wants l E g = some true) (hf : fl ⟨some d, op, ty, pos, aft, g⟩ = false) (hx : callOf E op = some (f, args)) [hb : Bodied P f] (hd : Nat.blt d N = true)
    (hs : ∀ A : List SP, SC P f args b (F ++ A) (fun v G => ∃ F', R v F' ∧ G = F' ++ A))
    (h : ∀ v F', R v F' → Ent F' F0 ∧ SV P tt fl ro N F0 y dy t zs oy l (k + 1) rest Q ((d, v) :: E) ds b F') : SV P tt fl ro N F0 y dy t zs oy l k (⟨some d, op, ty, pos, aft, g⟩ :: rest) Q E ds b F := sv_cons hky hE fun hy m w H H0 a hk hsl hds ho hl => by
  have hw := wanted_of (o := ⟨some d, op, ty, pos, aft, g⟩) hk hg
  refine ⟨_, ho, fun _ => .inr ⟨hf, ?_⟩, fun hc => ?_⟩
  · have hec := ec_call (P := P) (ty := ty) (w := w) hx
    unfold Eff
    rw [hec a.eval ⟨some d, op, ty, pos, aft, g⟩ hk.hyp rfl rfl]
    refine (hs (am t zs m) w H).mono ?_
    rintro e w' ⟨v, G, rfl, ⟨F', hR, rfl⟩, hG⟩
    obtain ⟨he, h'⟩ := h v F' hR
    have hF' : Sat b F0 w' := (hG.ent (ent_pre _)).ent he
    exact ⟨v, rfl, hF', h'.run hy m w' hG hF' _ (hk.put hd) (fun g' e => put_other hdy (hsl g' e)) (by rw [put_defers']; exact hds) hl⟩
  · rw [hw] at hc; cases hc
theorem sv_callE {f : FuncId} {args : List Value} (hky : Nat.beq k y = false) (hE : look E dy = none) (hdy : Nat.beq d dy = false) (hg : wants l E g = some true) (hf : fl ⟨some d, op, ty, pos, aft, g⟩ = false) (hx : callOf E op = some (f, args)) [hb : Bodied P f] (hd : Nat.blt d N = true)
    (hs : ∀ A : List SP, SC P f args b (F ++ A) (fun u G => u = v ∧ G = F ++ A)) (he : Ent F F0)
    (h : SV P tt fl ro N F0 y dy t zs oy l (k + 1) rest Q ((d, v) :: E) ds b F) : SV P tt fl ro N F0 y dy t zs oy l k (⟨some d, op, ty, pos, aft, g⟩ :: rest) Q E ds b F :=
  sv_call (R := fun u F' => u = v ∧ F' = F) hky hE hdy hg hf hx hd (fun A => (hs A).mono fun u G ⟨h1, h2⟩ => ⟨F, ⟨h1, rfl⟩, h2⟩) fun u F' ⟨h1, h2⟩ => by subst h1; subst h2; exact ⟨he, h⟩
/-- The variable's own place in the text. -/
theorem sv_at (h : SV P tt fl ro N F0 y dy t zs oy l (y + 1) rest Q E ds b F) : SV P tt fl ro N F0 y dy t zs oy l y (o :: rest) Q E ds b F := by
  have _ : TT P tt := inferInstance
  constructor
  intro hy m w H H0 a hk hsl hd hl
  have := h.run hy m w H H0 a hk hsl hd (dw_tail hl).2
  rw [List.length_cons, ix_skip]; exact this
/-- The first use. -/
theorem sv_join (hyk : Nat.blt y k = true) (hdep : (ancs l k).contains y = true) (hE : look E dy = none) (h : ∀ g, Ent (pt g t zs :: F) F0 ∧ SD P fl ro N F0 l k (o :: rest) Q ((dy, .pointer (some ⟨g, 0, none⟩)) :: E) ds b (pt g t zs :: F)) :
    SV P tt fl ro N F0 y dy t zs oy l k (o :: rest) Q E ds b F := by
  constructor
  intro hy
  have hsome : ∀ g w, Sat b (F ++ [pt g t zs]) w → Sat b F0 w → ∀ a, Kn N E a → a.tmps[dy]? = some (.pointer (some ⟨g, 0, none⟩)) → a.defers = ds → (∀ j : Nat, j < (o :: rest).length → (o :: rest)[j]? = l[k + j]?) → Tx P fl ro l (Sat b F0) Q (ix y k (rest.length + 1)) a w := by
    intro g w H H0 a hk hsl hd hl
    rw [ix_all hyk]
    have H' : Sat b (pt g t zs :: F) w := H.ent (ent_perm (List.perm_append_singleton _ _))
    have hk' : Kn N ((dy, .pointer (some ⟨g, 0, none⟩)) :: E) a := ⟨hk.1, fun i u hi => by
      simp only [look] at hi
      split at hi
      · rename_i hb
        have := Nat.eq_of_beq_eq_true hb
        subst this; cases hi; exact hsl
      · exact hk.2 i u hi⟩
    exact (h g).2.run w H' a hk' hd H0 hl
  intro m w H H0 a hk hsl hd hl
  cases m with
  | some g => exact ⟨(fun h => by cases h), fun _ => hsome g w H H0 a hk (hsl g rfl) hd hl⟩
  | none =>
    refine ⟨fun _ => ?_, (fun h => by cases h)⟩
    have hF : Sat b F w := H.ent (ent_pre _)
    have hAN : AN P fl ro l (Sat b F0) Q oy (ix y k (rest.length + 1)) a w := fy_eff hy hF H0 fun g w' H1 H2 => by
      refine ⟨H2, ?_⟩
      rw [hy.dst]
      refine hsome g w' H1 H2 _ (kn_dy hk hE _) ?_ (by rw [put_defers']; exact hd) hl
      simp only [Act.put]
      rw [Array.getElem?_setIfInBounds_self_of_lt (by rw [hk.1]; exact hy.lt)]
    show T1 P fl ro l (Sat b F0) Q y oy (ix y k (rest.length + 1)) a w
    have e : ix y k (rest.length + 1) = k :: List.range' (k + 1) rest.length := by rw [ix_all hyk, List.range'_succ]
    rw [e] at hAN ⊢
    exact ⟨hAN, fun hc => by rw [hdep] at hc; cases hc⟩
/-- A drawn region with a new variable that may come at any time. -/
theorem sw_float (y dy : Nat) {i : TI} (F0 : List SP) [hm : Mixed P] {id : Nat} (hok : okFloat fl y l = true) (hat : nth l y = some ⟨some dy, .alloc t, ty, pos, aft, none⟩) (ht : tt t = some i) (hz : zlist i.zero = some zs) (hd : Nat.blt dy N = true) (he : Ent F F0)
    (h : SV P tt fl ro N F0 y dy t zs ⟨some dy, .alloc t, ty, pos, aft, none⟩ l 0 l Q E ds b F) : SW P ro N (.region id l.toArray true) Q E ds b F := by
  have _ : TT P tt := inferInstance
  constructor
  intro w H a hk hda
  rw [nth_eq] at hat
  have H1 : Sat b F w.drew := H.ext (Fr.drew w)
  refine region_float hok hat hm.on (S := Sat b F0) (H1.ent he) ?_
  have := (h.run ⟨hat, rfl, rfl, rfl, Nat.le_of_ble_eq_true hd, i, ht, hz⟩ none w.drew (by simpa [am] using H1) (H1.ent he) a hk (fun _ e => by cases e) hda (fun j _ => by simp)).1 rfl
  have e : ix y 0 l.length = others l y := by unfold ix others; rw [List.range_eq_range']
  rw [e] at this
  exact this
end
end Go.Eng
/- The engine, part thirty-six: appending to the beginning of a row; cells of rows. Conditions: as part two. -/
namespace Go.Eng
open Go Go.RowKit

section
variable {P : Program} {tt : Nat → Option TI} [TT P tt] {ro : Option Nat} {N : Nat} {l rest : List Oper} {Q : Exit → Act → World → Prop} {E : List (Nat × Value)} {ds : List Deferred} {b : World} {F F0 G : List SP} {fl : Oper → Bool} {kk : Nat}
  {d : Nat} {op : Op} {ty : TypeId} {pos : String} {aft : Array Edge} {g : Option (Nat × Bool)} {v : Value}
theorem row_cell {e sz n c gg off k : Nat} {cs : List Value} {u : Value} (hk : nth F k = some (row e sz (.slice (some ⟨gg, off, none⟩) n c) n cs)) {j : Nat} (hj : cs[j]? = some u) : ∀ w, Sat b F w → w.cell? ⟨gg, off + j, none⟩ = some u := fun w H => by
  obtain ⟨A, c', hv, hl, _, _, _, hc⟩ := H.sl hk
  simp only [Value.slice.injEq, true_and] at hv
  obtain ⟨rfl, rfl⟩ := hv
  have hlt : j < cs.length := (List.getElem?_eq_some_iff.1 hj).1
  have h0 : 0 < n := by
    rcases Nat.eq_zero_or_pos n with h | h
    · subst h; rw [hl] at hlt; omega
    · exact h
  obtain ⟨bb, off', hA, _, hcell⟩ := hc h0
  cases hA
  rw [hcell j hlt, hj]
variable {k : Nat} {y dy tv : Nat} {zs : List Value} {oy : Oper}
theorem sv_fact {p : Prop} (hp : ∀ w, Sat b F w → p) (h : p → SV P tt fl ro N F0 y dy tv zs oy l k rest Q E ds b F) : SV P tt fl ro N F0 y dy tv zs oy l k rest Q E ds b F :=
  have _ : TT P tt := inferInstance
  ⟨fun hy m w H => (h (hp w (H.ent (ent_pre _)))).run hy m w H⟩
theorem sv_know (i : Nat) {u : Value} (v : Value) (hdy : Nat.beq i dy = false) (hl : look E i = some u) (he : u = v) (h : SV P tt fl ro N F0 y dy tv zs oy l k rest Q ((i, v) :: E) ds b F) : SV P tt fl ro N F0 y dy tv zs oy l k rest Q E ds b F :=
  have _ : TT P tt := inferInstance
  ⟨fun hy m w H H0 a hk => h.run hy m w H H0 a (hk.know hl he)⟩
end
end Go.Eng
/- The engine, part thirty-seven: built structs whose fields are arrays. Conditions: as part two. -/
namespace Go.Eng
open Go Go.RowKit

/-- Segments laid one behind the other. -/
def cat : List (List Value) → List Value
  | [] => []
  | [a] => a
  | a :: l => a ++ cat l
theorem cat_cons (a : List Value) (l : List (List Value)) : cat (a :: l) = a ++ cat l := by
  cases l with
  | nil => simp [cat]
  | cons b l => rfl
def segs (zs : List Value) : List (Nat × Nat) → List (List Value)
  | [] => []
  | (o, n) :: l => (zs.drop o).take n :: segs zs l
def setS : List (List Value) → Nat → List Value → List (List Value)
  | [], _, _ => []
  | _ :: l, 0, c => c :: l
  | a :: l, k + 1, c => a :: setS l k c
def okPl : Nat → List (Nat × Nat) → Nat → Bool
  | o, [], t => Nat.beq o t
  | o, (q, n) :: l, t => Nat.beq o q && okPl (o + n) l t
/-- The cells of a value. -/
def zc : Value → List Value
  | .agg ⟨cs⟩ => cs
  | v => [v]
theorem zc_eq (v : Value) : v.cells.toList = zc v := by cases v <;> rfl
def condS (pl : List (Nat × Nat)) : List (Nat × Value) → Prop
  | [] => True
  | (k, v) :: l => (match nth pl k with | some p => (zc v).length = p.2 | none => False) ∧ condS pl l
def fillS (s : List (List Value)) : List (Nat × Value) → List (List Value)
  | [] => s
  | (k, v) :: l => fillS (setS s k (zc v)) l
/-- The segments are as long as the places say, from o on. -/
def fits : Nat → List (Nat × Nat) → List (List Value) → Prop
  | _, [], [] => True
  | o, (q, n) :: pl, a :: s => o = q ∧ a.length = n ∧ fits (o + n) pl s
  | _, _, _ => False
theorem fits_segs {zs : List Value} : ∀ {pl : List (Nat × Nat)} {o t : Nat}, okPl o pl t = true → t = zs.length → fits o pl (segs zs pl) ∧ cat (segs zs pl) = zs.drop o
  | [], o, t, h, ht => by
    have := Nat.eq_of_beq_eq_true h
    exact ⟨trivial, by rw [segs, cat, List.drop_of_length_le (by omega)]⟩
  | (q, n) :: pl, o, t, h, ht => by
    simp only [okPl, Bool.and_eq_true] at h
    obtain ⟨h1, h2⟩ := h
    have := Nat.eq_of_beq_eq_true h1
    subst this
    obtain ⟨i1, i2⟩ := fits_segs h2 ht
    have hle : o + n ≤ t := by
      clear i1 i2 ht
      revert h2
      generalize o + n = m
      induction pl generalizing m with
      | nil => intro h2; have := Nat.eq_of_beq_eq_true h2; omega
      | cons p pl ih =>
        intro h2
        obtain ⟨q, n'⟩ := p
        simp only [okPl, Bool.and_eq_true] at h2
        have := ih _ h2.2; omega
    refine ⟨⟨rfl, by rw [List.length_take, List.length_drop]; omega, i1⟩, ?_⟩
    rw [segs, cat_cons, i2, ← List.drop_drop, List.take_append_drop]
theorem fits_set : ∀ {pl : List (Nat × Nat)} {s : List (List Value)} {o k : Nat} {p : Nat × Nat} {c : List Value}, fits o pl s → nth pl k = some p → c.length = p.2 → fits o pl (setS s k c) ∧ o ≤ p.1 ∧ spl (cat s) (p.1 - o) c = cat (setS s k c) ∧ (p.1 - o) + p.2 ≤ (cat s).length
  | [], _, _, _, _, _, _, h, _ => by simp [nth] at h
  | (q, n) :: pl, [], _, _, _, _, h, _, _ => h.elim
  | (q, n) :: pl, a :: s, o, 0, p, c, h, hp, hc => by
    obtain ⟨rfl, h2, h3⟩ := h
    simp only [nth, Option.some.injEq] at hp
    subst hp
    dsimp only at hc
    refine ⟨⟨rfl, hc, h3⟩, Nat.le_refl _, ?_, ?_⟩
    · simp only [setS, cat_cons, spl, Nat.sub_self, List.take_zero, List.nil_append, Nat.zero_add]
      rw [hc, ← h2, List.drop_left]
    · rw [cat_cons, List.length_append, h2, Nat.sub_self]; dsimp only; omega
  | (q, n) :: pl, a :: s, o, k + 1, p, c, h, hp, hc => by
    obtain ⟨rfl, h2, h3⟩ := h
    simp only [nth] at hp
    obtain ⟨i1, i2, i3, i4⟩ := fits_set h3 hp hc
    refine ⟨⟨rfl, h2, i1⟩, by omega, ?_, ?_⟩
    · simp only [setS, cat_cons, ← i3, spl]
      have e : p.1 - o = a.length + (p.1 - (o + n)) := by omega
      rw [e, List.take_append, List.take_of_length_le (by omega), Nat.add_sub_cancel_left, Nat.add_assoc, List.drop_append, List.drop_of_length_le (by omega), List.nil_append, Nat.add_sub_cancel_left, List.append_assoc]
    · rw [cat_cons, List.length_append]; omega
theorem fill_segs {pl : List (Nat × Nat)} : ∀ {vs : List (Nat × Value)} {s : List (List Value)}, fits 0 pl s → condS pl vs → fillL (nth pl) (cat s) vs = some (cat (fillS s vs))
  | [], _, _, _ => rfl
  | (k, v) :: vs, s, h, hc => by
    obtain ⟨h1, h2⟩ := hc
    cases hp : nth pl k with
    | none => rw [hp] at h1; exact h1.elim
    | some p =>
      rw [hp] at h1
      dsimp only at h1
      obtain ⟨i1, _, i3, i4⟩ := fits_set h hp h1
      rw [Nat.sub_zero] at i3 i4
      have e1 : v.cells.size = p.2 := by rw [← h1, ← zc_eq, Array.length_toList]
      obtain ⟨off, size⟩ := p
      dsimp only at *
      have b1 : Nat.beq v.cells.size size = true := by rw [e1]; exact Nat.beq_refl _
      have b2 : Nat.ble (off + size) (cat s).length = true := Nat.ble_eq_true_of_le i4
      simp only [fillL, hp, b1, b2, fillS]
      rw [zc_eq, i3]
      exact fill_segs i1 h2
def pevB (tt : Nat → Option TI) (E : List (Nat × Value)) : Op → Option (Prop × Value)
  | .build t ⟨parts⟩ => match tt t with
    | some ⟨.struct _, _, _, .agg ⟨zs⟩, fs⟩ => match places tt fs, evp E parts with
      | some pl, some vs => match okPl 0 pl zs.length with
        | true => some (condS pl vs, .agg ⟨cat (fillS (segs zs pl) vs)⟩)
        | false => none
      | _, _ => none
    | _ => none
  | _ => none
section
variable {P : Program} {tt : Nat → Option TI} [TT P tt] {ro : Option Nat} {N : Nat} {l rest : List Oper} {Q : Exit → Act → World → Prop} {E : List (Nat × Value)} {ds : List Deferred} {b : World} {F F0 G : List SP} {fl : Oper → Bool} {kk : Nat}
  {d : Nat} {op : Op} {ty : TypeId} {pos : String} {aft : Array Edge} {g : Option (Nat × Bool)} {v : Value}
theorem pevB_sound {c : Prop} (h : pevB tt E op = some (c, v)) (hc : c) : Pu P E op ty v := by
  apply pevb_sound (tt := tt)
  unfold pevB at h
  split at h
  · rename_i t parts
    split at h
    · rename_i n s1 s2 zs fs h1
      split at h
      · rename_i pl vs h2 h3
        split at h
        · rename_i h4
          simp only [Option.some.injEq, Prod.mk.injEq] at h
          obtain ⟨rfl, rfl⟩ := h
          obtain ⟨f1, f2⟩ := fits_segs (zs := zs) h4 rfl
          have := fill_segs f1 hc
          rw [f2, List.drop_zero] at this
          simp only [pevb, h1, h2, h3, this]
        · cases h
      · cases h
    · cases h
  · cases h
theorem so_B {c : Prop} (hg : wants l E g = some true) (hx : pevB tt E op = some (c, v)) (hd : Nat.blt d N = true) (hc : c) (h : SO P ro N l rest Q ((d, v) :: E) ds b F) : SO P ro N l (⟨some d, op, ty, pos, aft, g⟩ :: rest) Q E ds b F := so_pu hg (pevB_sound hx hc) hd h
theorem sd_B {c : Prop} (hg : wants l E g = some true) (hx : pevB tt E op = some (c, v)) (hf : fl ⟨some d, op, ty, pos, aft, g⟩ = true) (hd : Nat.blt d N = true) (hc : c) (h : SD P fl ro N F0 l (kk + 1) rest Q ((d, v) :: E) ds b F) : SD P fl ro N F0 l kk (⟨some d, op, ty, pos, aft, g⟩ :: rest) Q E ds b F := sd_pu hg (pevB_sound hx hc) hf hd h
end
end Go.Eng
/- The engine, part thirty-seven: a piece whose innards are hidden: some s with p s, and the pieces G s. Conditions: none. -/
namespace Go.Eng
open Go Go.RowKit

section
variable {S : Type} {p : S → Prop} {G : S → List SP} {F : List SP} {b : World}
variable {P : Program} {f : FuncId} {args : List Value} {R R' : Value → List SP → Prop}
end
section
variable {S : Type} {p : S → Prop} {G : S → List SP}
variable {P : Program} {ro : Option Nat} {N : Nat} {l rest : List Oper} {Q : Exit → Act → World → Prop} {E : List (Nat × Value)} {ds : List Deferred} {b : World} {F : List SP} {e : Exit} {c : Code}
end
end Go.Eng
/- The engine, part thirty-eight: more of regions that draw their order. Conditions: as part two. -/
namespace Go.Eng
open Go Go.RowKit

section
variable {P : Program} {tt : Nat → Option TI} [TT P tt] {ro : Option Nat} {N : Nat} {l rest : List Oper} {Q : Exit → Act → World → Prop} {E : List (Nat × Value)} {ds : List Deferred} {b : World} {F F0 : List SP} {fl : Oper → Bool} {kk : Nat}
  {d : Nat} {op : Op} {ty : TypeId} {pos : String} {aft : Array Edge} {g : Option (Nat × Bool)}
end
end Go.Eng
/- The engine, part thirty-nine: objects that are no cells; texts gone through rune by rune; calls that are deferred; ranges over a function, where memory is told piece by piece. Conditions: as part two. -/
namespace Go.Eng
open Go Go.RowKit

/-! ## Objects -/
def ob (g : Nat) (o : Obj) : SP := fun h => h g = some o
section
variable {b w w' : World} {F G : List SP} {k g : Nat} {o o' : Obj} {A : SP}
theorem Sat.ob (H : Sat b F w) (hk : nth F k = some (ob g o)) : w.heap[g]? = some o := by
  obtain ⟨h1, l, hA⟩ := H.mem.get hk
  exact l g o hA
theorem Sat.newOb (H : Sat b F w) (o : Obj) : Sat b (Go.Eng.ob w.heap.size o :: F) (w.alloc o) :=
  H.new (Fr.alloc w o) (one_le (h := ph _) (heap_alloc_new w o)) (fun i hi => by rw [one_ne hi]; exact Nat.le_refl _) (one_at _ _)
theorem Sat.putPi {B : SP} (H : Sat b F w) (hk : nth F k = some A) (hA : ∀ h, A h → h g ≠ none) (hB : ∀ h, h g = some o' → B h) (hG : setF F k B = some G) : Sat b G (w.putObj g o') := by
  refine H.upd k hk (Fr.putObj w g o') (fun h1 l hh => ?_) hG
  have hg := hA h1 hh
  have hlt : g < w.heap.size := by
    cases hx : h1 g with
    | none => exact absurd hx hg
    | some o => exact ph_lt (l g o hx)
  exact ⟨fun i _ hi => by subst hi; exact hg, _, one_le (h := ph (w.putObj g o')) (World.putObj_heap_same hlt), hB _ (one_at g _), fun i hi => .inl (by rw [one_ne hi]; exact hg)⟩
theorem Sat.putOb (H : Sat b F w) (hk : nth F k = some (Go.Eng.ob g o)) (hG : setF F k (Go.Eng.ob g o') = some G) : Sat b G (w.putObj g o') :=
  H.putPi hk (fun h hh => by rw [show h g = _ from hh]; simp) (fun h hh => hh) hG
end

/-! ## Texts gone through rune by rune -/
section
variable {P : Program} {tt : Nat → Option TI} [TT P tt] {ro : Option Nat} {N : Nat} {l rest : List Oper} {Q : Exit → Act → World → Prop} {E : List (Nat × Value)} {ds : List Deferred} {b : World} {F G : List SP}
  {d : Nat} {op : Op} {ty : TypeId} {pos : String} {aft : Array Edge} {g : Option (Nat × Bool)} {v : Value}
theorem so_rangeS {t : Nat} {x : Operand} {s : ByteArray} {i : TI} (hg : wants l E g = some true) (hop : op = .range t x) (ht : tt t = some i) (hi : i.desc = .string) (hx : ev E x = some (.string s)) (hd : Nat.blt d N = true)
    (h : ∀ g', SO P ro N l rest Q ((d, .pointer (some ⟨g', 0, none⟩)) :: E) ds b (ob g' (.stringIter s 0) :: F)) : SO P ro N l (⟨some d, op, ty, pos, aft, g⟩ :: rest) Q E ds b F := ⟨fun w H => by
  subst hop
  refine ow_ex hg ?_ hd ((h w.heap.size).1 _ (H.newOb _))
  intro ρ o hρ hop' _
  simp [execOp, hop', Instr.range, hρ _ _ hx, TT.run_und (P := P) ht (by rw [hi]; rfl), hi]⟩
theorem so_nextS {x : Operand} {s : ByteArray} {g' p : Nat} (k : Nat) (hg : wants l E g = some true) (hop : op = .next x true) (hx : ev E x = some (.pointer (some ⟨g', 0, none⟩))) (hF : nth F k = some (ob g' (.stringIter s p))) (hd : Nat.blt d N = true) (hlt : p < s.size)
    (hG : setF F k (ob g' (.stringIter s (p + (Utf8.decode s p).2))) = some G)
    (h : SO P ro N l rest Q ((d, .tuple ⟨[.bool true, .int .i64 (p : Int), .int .i32 ((Utf8.decode s p).1 : Int)]⟩) :: E) ds b G) : SO P ro N l (⟨some d, op, ty, pos, aft, g⟩ :: rest) Q E ds b F := ⟨fun w H => by
  subst hop
  have hh := H.ob hF
  refine ow_ex hg ?_ hd (h.1 _ (H.putOb hF hG))
  intro ρ o hρ hop' _
  simp [execOp, hop', Instr.next, hρ _ _ hx, getObj, setObj, Sem.run, hh, hlt, World.putObj, goInt]⟩
theorem so_nextSE {x : Operand} {s : ByteArray} {g' p : Nat} (k : Nat) (hg : wants l E g = some true) (hop : op = .next x true) (hx : ev E x = some (.pointer (some ⟨g', 0, none⟩))) (hF : nth F k = some (ob g' (.stringIter s p))) (hd : Nat.blt d N = true) (hle : s.size ≤ p)
    (h : SO P ro N l rest Q ((d, .tuple ⟨[.bool false]⟩) :: E) ds b F) : SO P ro N l (⟨some d, op, ty, pos, aft, g⟩ :: rest) Q E ds b F := ⟨fun w H => by
  subst hop
  have hh := H.ob hF
  refine ow_ex hg ?_ hd (h.1 _ H)
  intro ρ o hρ hop' _
  simp [execOp, hop', Instr.next, hρ _ _ hx, getObj, Sem.run, hh, Nat.not_lt.2 hle]⟩
end

section
variable {P : Program} {tt : Nat → Option TI} [TT P tt] {N : Nat} {l rest : List Oper} {Q : Exit → Act → World → Prop} {E : List (Nat × Value)} {ds : List Deferred} {b w : World} {F G : List SP}
  {d : Nat} {op : Op} {ty : TypeId} {pos : String} {aft : Array Edge} {g : Option (Nat × Bool)} {v : Value}
end
section
variable {P : Program} {tt : Nat → Option TI} [TT P tt] {N : Nat} {E : List (Nat × Value)} {b : World} {F G : List SP} {fn : Func} {R : Value → List SP → Prop} {f : FuncId} {c : Code} {args : List Value}
end

section
variable {P : Program} {ro : Option Nat} {N : Nat} {l rest : List Oper} {Q : Exit → Act → World → Prop} {E : List (Nat × Value)} {ds : List Deferred} {b : World} {F G : List SP}
  {d : Nat} {op : Op} {ty : TypeId} {pos : String} {aft : Array Edge} {g : Option (Nat × Bool)} {v : Value}
  {ok : List (List Value) → List Value → Prop} {J : List (List Value) → SP}
variable {m : Nat} {ps : Array Tmp} {asg body : Code} {R : Ending → World → Prop}
end
section
variable {P : Program} {N : Nat} {Q : Exit → Act → World → Prop} {E : List (Nat × Value)} {ds : List Deferred} {b : World} {F : List SP}
end
end Go.Eng
/- The engine, part forty: rows opened to the block they lie in; appending in place. Conditions: as part two. -/
namespace Go.Eng
open Go Go.RowKit

section
variable {P : Program} {tt : Nat → Option TI} [TT P tt] {ro : Option Nat} {N : Nat} {l rest : List Oper} {Q : Exit → Act → World → Prop} {E : List (Nat × Value)} {ds : List Deferred} {b : World} {F F0 G : List SP} {fl : Oper → Bool} {kk : Nat}
  {d : Nat} {op : Op} {ty : TypeId} {pos : String} {aft : Array Edge} {g : Option (Nat × Bool)} {v : Value}
end
section
variable {b : World} {F G : List SP} {e sz n g off cap : Nat} {cs : List Value}
end
end Go.Eng
/- The engine, part forty-one: cells one behind the other; arguments that are structs and lists of structs. Conditions: none. -/
namespace Go.Eng
open Go Go.RowKit Go.WideMaps

theorem i64wf (x : Int) : (Lit.int .i64 x).wf = true ↔ I64 x := by
  have h1 : IntKind.i64.min = -9223372036854775808 := by decide
  have h2 : IntKind.i64.max = 9223372036854775807 := by decide
  simp [Lit.wf, h1, h2, I64]
/-- Cells one behind the other. -/
def flC {α : Type} (f : α → List Value) : List α → List Value
  | [] => []
  | a :: l => f a ++ flC f l
section
variable {α : Type} {f : α → List Value} {l : List α} {sz : Nat}
theorem flC_app (a c : List α) : flC f (a ++ c) = flC f a ++ flC f c := by
  induction a with
  | nil => rfl
  | cons x a ih => simp only [List.cons_append, flC, ih, List.append_assoc]
theorem flC_len (h : ∀ a ∈ l, (f a).length = sz) : (flC f l).length = l.length * sz := by
  induction l with
  | nil => simp [flC]
  | cons x l ih =>
    have h1 := h x List.mem_cons_self
    have h2 := ih fun w hw => h w (List.mem_cons_of_mem _ hw)
    simp only [flC, List.length_append, h1, h2, List.length_cons, Nat.succ_mul]; omega
theorem flC_at (h : ∀ a ∈ l, (f a).length = sz) {i : Nat} (hi : i < l.length) {j : Nat} (hj : j < sz) : (flC f l)[i * sz + j]? = (f l[i])[j]? := by
  induction l generalizing i with
  | nil => simp at hi
  | cons x l ih =>
    have h1 := h x List.mem_cons_self
    cases i with
    | zero => simp only [flC, Nat.zero_mul, Nat.zero_add, List.getElem_cons_zero]; exact List.getElem?_append_left (by omega)
    | succ i =>
      simp only [flC, List.getElem_cons_succ]
      rw [List.getElem?_append_right (by rw [h1, Nat.succ_mul]; omega), h1, Nat.succ_mul, show i * sz + sz + j - sz = i * sz + j by omega]
      exact ih (fun w hw => h w (List.mem_cons_of_mem _ hw)) (by simpa using hi)
theorem flC_set (h : ∀ a ∈ l, (f a).length = sz) {i : Nat} {x : α} (hx : (f x).length = sz) (hi : i < l.length) : spl (flC f l) (i * sz) (f x) = flC f (l.set i x) := by
  induction l generalizing i with
  | nil => simp at hi
  | cons y l ih =>
    have h1 := h y List.mem_cons_self
    cases i with
    | zero =>
      simp only [List.set_cons_zero, flC, spl, Nat.zero_mul, List.take_zero, List.nil_append, Nat.zero_add, hx]
      rw [List.drop_append_of_le_length (by omega), List.drop_of_length_le (by omega), List.nil_append]
    | succ i =>
      have := ih (fun w hw => h w (List.mem_cons_of_mem _ hw)) (by simpa using hi)
      simp only [List.set_cons_succ, flC, ← this, spl]
      rw [Nat.succ_mul, show i * sz + sz = (f y).length + i * sz by omega, List.take_length_add_append, show (f y).length + i * sz + (f x).length = (f y).length + (i * sz + (f x).length) by omega, List.drop_length_add_append, List.append_assoc]
theorem sl_cell {w : World} {bk off n c j : Nat} {cs : List Value} (h : SL w sz (.slice (some ⟨bk, off, none⟩) n c) n cs) (hj : j < cs.length) : w.cell? ⟨bk, off + j, none⟩ = cs[j]? := by
  obtain ⟨A, c', hv, hl, _, _, _, hc⟩ := h
  cases hv
  obtain ⟨b', o', hA, _, hcc⟩ := hc (by
    rcases Nat.eq_zero_or_pos n with h0 | h0
    · subst h0; simp at hl; subst hl; simp at hj
    · exact h0)
  cases hA
  exact hcc j hj
theorem fl_cell {w : World} {bk off c i j : Nat} (h : SL w sz (.slice (some ⟨bk, off, none⟩) l.length c) l.length (flC f l)) (hf : ∀ a ∈ l, (f a).length = sz) (hi : i < l.length) (hj : j < sz) : w.cell? ⟨bk, off + i * sz + j, none⟩ = (f l[i])[j]? := by
  rw [Nat.add_assoc, sl_cell h, flC_at hf hi hj]
  rw [flC_len hf]
  have : (i + 1) * sz ≤ l.length * sz := Nat.mul_le_mul_right _ hi
  rw [Nat.succ_mul] at this; omega
end
theorem segO_front {l : List Value} (m : List Value) {n : Nat} (h : l.length = n) : segO (l ++ m) 0 n = some l := by
  subst h
  induction l with
  | nil => cases m <;> rfl
  | cons a l ih => simp only [List.cons_append, List.length_cons, segO, ih]
def isStrB (P : Program) (t : TypeId) : Bool := match P.underlying t with
  | some (.struct _) => true
  | _ => false
theorem agg_of_okWide {P : Program} {t : TypeId} {W : World} {r : Reach} {b0 : Nat} {v : Value} (ht : isStrB P t = true) (h : Value.okWide P W r b0 t v) : ∃ cs : Array Value, v = .agg cs := by
  unfold isStrB at ht
  split at ht
  · rename_i fs hf
    simp only [Value.okWide, hf] at h
    obtain ⟨cs, h1, _⟩ := h
    exact ⟨cs, h1⟩
  · cases ht
theorem flat_fl {α β : Type} {g : α → β} {f : β → List Value} : ∀ {ess : List (List Value)} {xs : List α}, ess.length = xs.length → (∀ (i : Nat) e a, ess[i]? = some e → xs[i]? = some a → e = f (g a)) → ess.flatten = flC f (xs.map g)
  | [], [], _, _ => rfl
  | [], _ :: _, h, _ => by simp at h
  | _ :: _, [], h, _ => by simp at h
  | e :: ess, a :: xs, h, hh => by
    rw [List.flatten_cons, hh 0 e a rfl rfl, flat_fl (by simpa using h) fun i e a h1 h2 => hh (i + 1) e a h1 h2]; rfl
theorem rdL_flat {α β : Type} {R : Rdg α} {g : α → β} {f : β → List Value} {p : β → Prop} {W : World} (hR : ∀ cs x, R W cs x → cs = f (g x) ∧ p (g x)) {sz : Nat} {cs : List Value} {x : Value × List α} (h : rdL sz R W cs x) : cs = [x.1] ∧ SL W sz x.1 (x.2.map g).length (flC f (x.2.map g)) ∧ ∀ y ∈ x.2.map g, p y := by
  obtain ⟨hv, ess, e1, e2, e3, e4⟩ := h
  have hf := flat_fl (f := f) (g := g) e1 fun i e a h1 h2 => (hR e a (e4 i e a h1 h2)).1
  rw [hf] at e3
  refine ⟨hv, by rw [List.length_map]; exact e3, fun y hy => ?_⟩
  obtain ⟨a, ha, rfl⟩ := List.mem_map.1 hy
  obtain ⟨i, hi, rfl⟩ := List.mem_iff_getElem.1 ha
  exact (hR _ _ (e4 i _ _ (List.getElem?_eq_getElem (by omega)) (List.getElem?_eq_getElem hi))).2
theorem rdI_list {W : World} {k : IntKind} {cs : List Value} {x : Value × List Int} (h : rdL 1 (rdI k) W cs x) : cs = [x.1] ∧ VL (Value.int k) W x.1 x.2 ∧ ∀ n ∈ x.2, (Lit.int k n).wf = true := by
  obtain ⟨h1, h2, h3⟩ := rdL_flat (g := id) (f := fun n => [Value.int k n]) (p := fun n => (Lit.int k n).wf = true) (fun cs x hx => ⟨hx.1, hx.2⟩) h
  rw [List.map_id] at h2 h3
  have e : ∀ l : List Int, flC (fun x : Int => [Value.int k x]) l = l.map (Value.int k) := fun l => by
    induction l with
    | nil => rfl
    | cons x l ih => simp only [flC, ih]; rfl
  rw [e] at h2
  exact ⟨h1, h2, h3⟩
theorem i64wf' {x : Int} (h : (Lit.int .i64 x).wf = true) : I64 x := (i64wf x).1 h
theorem cut_eq {n : Nat} {cs a c : List Value} (h1 : cs.take n = a) (h2 : cs.drop n = c) : cs = a ++ c := by rw [← h1, ← h2, List.take_append_drop]
end Go.Eng
/- The engine, part forty-two: a drawn region cut in two, where what the second part rests on is chosen in between. Conditions: none. -/
namespace Go.Eng
open Go Go.RowKit

section
variable {P : Program} {ro : Option Nat} {l : List Oper} {Q : Exit → Act → World → Prop} {S : World → Prop} {fl : Oper → Bool}
end
section
variable {P : Program} {ro : Option Nat} {l : List Oper} {Q : Exit → Act → World → Prop} {N : Nat} {E : List (Nat × Value)} {ds : List Deferred} {w : World} {b : World} {F : List SP} {fl : Oper → Bool}
end
end Go.Eng
/- The engine, part forty-three: a function that holds a range over a function ends; the end of a row is cleared; a map is cleared. Conditions: none. -/
namespace Go.Eng
open Go Go.RowKit

section
variable {P : Program} {tt : Nat → Option TI} [TT P tt] {N : Nat} {E : List (Nat × Value)} {b : World} {F G : List SP} {fn : Func} {R : Value → List SP → Prop}
end

section
variable {P : Program} {tt : Nat → Option TI} [TT P tt] {ro : Option Nat} {N : Nat} {l rest : List Oper} {Q : Exit → Act → World → Prop} {E : List (Nat × Value)} {ds : List Deferred} {b : World} {F G : List SP}
  {d : Nat} {op : Op} {ty : TypeId} {pos : String} {aft : Array Edge} {g : Option (Nat × Bool)} {v : Value}
end

/-! ## Copying into a block -/
theorem run_copyS {P : Program} {tt : Nat → Option TI} [TT P tt] {w : World} {dT sT ty elem s1 s2 g o dLen dCap m : Nat} {z1 : Value} {f1 : List (Nat × Nat)} {i : TI} {cur : Array Value} {t : TypeId} {vx : Value} {news : List Value}
    (ht : tt dT = some ⟨.slice elem, s1, s2, z1, f1⟩) (he : tt elem = some i) (hi : Nat.beq i.size 1 = true) (hg : w.heap[g]? = some (.cells cur t (0, 0))) (hsl : SL w 1 vx m news) (hm : m ≤ dLen) (hfit : o + m ≤ cur.size) (h1 : ∀ u ∈ news, u.oneCell' = true) :
    (Builtin.copy_ #[dT, sT] ty #[.slice (some ⟨g, o, none⟩) dLen dCap, vx]).run P w = .ok (.int .i64 (m : Int)) (w.setRow g (spl cur.toList o news).toArray) := by
  obtain ⟨j, hj, h2, _, _⟩ := TT.info (P := P) elem i he
  have hu := TT.und (P := P) dT _ ht rfl
  have hs1 := Nat.eq_of_beq_eq_true hi
  obtain ⟨A, c, rfl, hl, hc, hmx, hz0, hcell⟩ := hsl
  rw [Nat.mul_one] at hl
  have e9 : ∀ ns : List Value, cur.toList.take o ++ ns ++ cur.toList.drop (o + ns.length) = spl cur.toList o ns := fun ns => by simp [spl]
  cases A with
  | none =>
    have hm0 : m = 0 := by have := hz0 rfl; omega
    subst hm0
    have hn : news = [] := List.eq_nil_of_length_eq_zero hl
    subst hn
    obtain rfl : c = 0 := hz0 rfl
    have hr := run_copy_nil (P := P) w dT sT ty elem ⟨g, o, none⟩ dLen dCap hu (by simp [hj])
    rw [hr]
    have : spl cur.toList o [] = cur.toList := by simp [spl]
    rw [this, Array.toArray_toList, setRow_self w g cur t (0, 0) hg]
    rfl
  | some a =>
    have hnews : ∀ k u, news[k]? = some u → w.cell? (a.add k) = some u := by
      intro k u hk
      have hlt : k < news.length := (List.getElem?_eq_some_iff.1 hk).1
      obtain ⟨b, off', hab, hb, hcc⟩ := hcell (by omega)
      cases hab
      have ha : (⟨b, off', none⟩ : Addr).add k = ⟨b, off' + k, none⟩ := by unfold Addr.add; split <;> simp_all
      rw [ha, hcc k hlt, hk]
    have hr := run_copy_row (P := P) w dT sT ty elem g o dLen dCap a m c cur t news hu (by simp [hj, h2, hs1]) hg (by rw [hl]; exact (Nat.min_eq_left hm).symm) hnews (by omega) h1
    rw [hr, e9, hl]
    rfl
section
variable {P : Program} {tt : Nat → Option TI} [TT P tt] {ro : Option Nat} {N : Nat} {l rest : List Oper} {Q : Exit → Act → World → Prop} {E : List (Nat × Value)} {ds : List Deferred} {b : World} {F F0 G : List SP} {fl : Oper → Bool} {kk : Nat}
  {d : Nat} {op : Op} {ty : TypeId} {pos : String} {aft : Array Edge} {g : Option (Nat × Bool)} {v : Value}
theorem ex_copyPt {dT sT elem s1 s2 g' o dLen dCap m t0 : Nat} {z1 : Value} {f1 : List (Nat × Nat)} {i : TI} {x y : Operand} {vx : Value} {cs news : List Value} (k : Nat) (ht : tt dT = some ⟨.slice elem, s1, s2, z1, f1⟩) (he : tt elem = some i) (hi : Nat.beq i.size 1 = true)
    (hx : ev E x = some (.slice (some ⟨g', o, none⟩) dLen dCap)) (hy : ev E y = some vx) (hF : nth F k = some (pt g' t0 cs)) (hG : setF F k (pt g' t0 (spl cs o news)) = some G) (hsl : ∀ w, Sat b F w → SL w 1 vx m news) (hm : m ≤ dLen) (hfit : o + m ≤ cs.length) (h1 : ∀ u ∈ news, u.oneCell' = true) :
    ∀ w, Sat b F w → ∃ w', Ex P E (.call ⟨.builtin .copy, ⟨[x, y]⟩, ⟨[dT, sT]⟩⟩) ty w (.int .i64 (m : Int)) w' ∧ Sat b G w' := fun w H => by
  have B := H.blk hF
  have hr := run_copyS (P := P) (ty := ty) (sT := sT) (dCap := dCap) ht he hi B (hsl w H) hm (by simpa using hfit) h1
  refine ⟨_, ?_, H.write hF (Fr.setRow _ _ _) B.setRow hG⟩
  intro ρ q hρ ho hty
  subst hty
  simp only [execOp, ho, resolve, invoke, builtin, Sem.run_bind, Sem.run_pure, Result.andThen]
  have e1 : Array.map ρ #[x, y] = #[.slice (some ⟨g', o, none⟩) dLen dCap, vx] := by simp [hρ _ _ hx, hρ _ _ hy]
  simp only [e1, hr]
end
end Go.Eng
/- The engine, part forty-four: a slice literal of two elements of several cells. Conditions: none. -/
namespace Go.Eng
open Go Go.RowKit

section
variable {P : Program} {tt : Nat → Option TI} [TT P tt] {fl : Oper → Bool} {ro : Option Nat} {N d kk : Nat} {l rest : List Oper} {Q : Exit → Act → World → Prop} {E : List (Nat × Value)} {ds : List Deferred} {b : World} {F F0 : List SP} {op : Op} {ty : TypeId} {pos : String} {aft : Array Edge} {g : Option (Nat × Bool)} {v u : Value}
theorem ex_lit2 {t e s1 s2 : Nat} {z1 : Value} {f1 : List (Nat × Nat)} {i : TI} {x y : Operand} {cs us : List Value} {w : World} (ht : tt t = some ⟨.slice e, s1, s2, z1, f1⟩) (he : tt e = some i) (hx : ev E x = some v) (hy : ev E y = some u) (hz : zlist v = some cs) (hzu : zlist u = some us) (hl : cs.length = i.size) (hlu : us.length = i.size) (hs : 2 * i.size ≤ 16777216) :
    Ex P E (.buildSlice t 2 ⟨[(0, x), (1, y)]⟩) ty w (.slice (some ⟨w.heap.size, 0, none⟩) 2 2) (w.alloc (.cells (cs ++ us).toArray e)) := by
  have hc := zlist_eq hz
  have hu := zlist_eq hzu
  refine ex_buildSlice ht he (vs := [(0, v), (1, u)]) (by simp [hx, hy]) rfl (by omega) fun z hz' => ?_
  have h1 : Nat.beq v.cells.size i.size = true := by
    have : v.cells.size = i.size := by rw [← hl, ← hc]; simp
    rw [this]; exact Nat.beq_refl _
  have h1u : Nat.beq u.cells.size i.size = true := by
    have : u.cells.size = i.size := by rw [← hlu, ← hu]; simp
    rw [this]; exact Nat.beq_refl _
  have h2 : Nat.ble i.size z.length = true := Nat.ble_eq_true_of_le (by omega)
  have e1 : spl z 0 cs = cs ++ z.drop i.size := by simp [spl, hl]
  have e2 : spl (cs ++ z.drop i.size) i.size us = cs ++ us := by
    rw [spl, ← hl, List.take_left, ← List.drop_drop, List.drop_left, List.drop_drop, List.drop_of_length_le (by omega), List.append_nil]
  have h3 : Nat.ble (i.size + i.size) (cs ++ z.drop i.size).length = true := Nat.ble_eq_true_of_le (by simp; omega)
  simp only [fillL, h1, h1u, hc, hu, Nat.zero_mul, Nat.zero_add, Nat.one_mul, h2, e1, h3, e2]
theorem so_lit2 {t e s1 s2 : Nat} {z1 : Value} {f1 : List (Nat × Nat)} {i : TI} {x y : Operand} {cs us : List Value} (hg : wants l E g = some true) (hop : op = .buildSlice t 2 ⟨[(0, x), (1, y)]⟩) (ht : tt t = some ⟨.slice e, s1, s2, z1, f1⟩) (he : tt e = some i) (hx : ev E x = some v) (hy : ev E y = some u) (hz : zlist v = some cs) (hzu : zlist u = some us) (hd : Nat.blt d N = true) (hl : cs.length = i.size) (hlu : us.length = i.size) (hs : 2 * i.size ≤ 16777216)
    (h : ∀ g', SO P ro N l rest Q ((d, .slice (some ⟨g', 0, none⟩) 2 2) :: E) ds b (pt g' e (cs ++ us) :: F)) : SO P ro N l (⟨some d, op, ty, pos, aft, g⟩ :: rest) Q E ds b F := by
  subst hop
  exact ⟨fun w H => ow_ex hg (ex_lit2 ht he hx hy hz hzu hl hlu hs) hd ((h w.heap.size).1 _ (H.alloc (Fr.alloc w _) (Blk.new w e (cs ++ us)) (Nat.le_refl _)))⟩
end
end Go.Eng
/- The engine, part forty-five: a drawn region in which some pairs of operations with an effect may change places, with the reading ones that the later of both waits for. Conditions: as part seven, 'okTree' reckoned. -/
namespace Go.Eng
open Go Go.RowKit

section
variable {P : Program} {ro : Option Nat} {l : List Oper} {Q Q' : Exit → Act → World → Prop} {S : World → Prop} {fl : Oper → Bool}

end

section
variable {fl : Oper → Bool} {l : List Oper}
end

/-! ### Walked -/
section
variable {P : Program} {fl : Oper → Bool} {ro : Option Nat} {N : Nat} {l : List Oper} {Q : Exit → Act → World → Prop} {E : List (Nat × Value)} {ds : List Deferred} {b : World} {F F0 : List SP}
end
end Go.Eng
/- The engine, part 36: what an interface holds, asked with 'ok'. Conditions: none. -/
namespace Go.Eng
open Go Go.RowKit
section
variable {P : Program} {tt : Nat → Option TI} [hTT : TT P tt] {E : List (Nat × Value)} {v : Value} {ty : Nat} {ro : Option Nat} {N d : Nat} {pos : String} {aft : Array Edge} {g : Option (Nat × Bool)} {l rest : List Oper} {Q : Exit → Act → World → Prop} {ds : List Deferred} {b : World} {F F0 : List SP} {op : Op} {fl : Oper → Bool} {kk : Nat}
def asV (hit : Bool) (v z : Value) : Value := match hit with
  | true => .tuple #[v, .bool true]
  | false => .tuple #[z, .bool false]
theorem pu_as2 {t0 t t' : Nat} {i : TI} {x : Operand} (hx : ev E x = some (.iface t0 v)) (ht : tt t = some i) (hi : isIface i.desc = false) : Pu P E (.typeAssert x t' t true) ty (asV (Nat.beq t0 t) v i.zero) := by
  intro w ρ o hρ ho _
  have hu : ∃ D, P.underlying t = some D ∧ isIface D = false := by
    by_cases hs : isSt i.desc = true
    · obtain ⟨fs, h1, _⟩ := TT.st (P := P) t i ht hs
      exact ⟨_, h1, rfl⟩
    · exact ⟨_, TT.und (P := P) t i ht (by simpa using hs), hi⟩
  obtain ⟨D, h1, h2⟩ := hu
  have hz := TT.run_zero (P := P) ht w
  have hr : (Instr.typeAssert (.iface t0 v) t' t true).run P w = .ok (asV (Nat.beq t0 t) v i.zero) w := by
    unfold Instr.typeAssert
    simp only [Sem.run_bind, run_underlying h1, Result.andThen]
    cases hb : Nat.beq t0 t with
    | true =>
      have := Nat.eq_of_beq_eq_true hb
      subst this
      cases D <;> first | (simp [isIface] at h2; done) | simp [asV]
    | false =>
      have := Nat.ne_of_beq_eq_false hb
      cases D <;> first | (simp [isIface] at h2; done) | simp [asV, this, hz, Result.andThen]
  simp [execOp, ho, hρ _ _ hx, hr]
theorem so_as2 {t0 t t' : Nat} {i : TI} {x : Operand} {q : Bool} (hg : wants l E g = some true) (hop : op = .typeAssert x t' t true) (hx : ev E x = some (.iface t0 v)) (ht : tt t = some i) (hi : isIface i.desc = false) (hq : Nat.beq t0 t = q) (hd : Nat.blt d N = true) (h : SO P ro N l rest Q ((d, asV q v i.zero) :: E) ds b F) :
    SO P ro N l (⟨some d, op, ty, pos, aft, g⟩ :: rest) Q E ds b F := by subst hop; subst hq; exact so_pu hg (pu_as2 hx ht hi) hd h
end
end Go.Eng
/- The engine, part 37: a text is appended to a row of bytes. Conditions: not too many. -/
namespace Go.Eng
open Go Go.RowKit
/-- A text's bytes. -/
abbrev strC (s : ByteArray) : List Value := (strI s).map (Value.int .u8)
theorem strC_len (s : ByteArray) : (strC s).length = s.size := by simp [strC, strI]
theorem strC_one (s : ByteArray) : ∀ u ∈ strC s, u.oneCell' = true := by intro u hu; obtain ⟨x, _, rfl⟩ := List.mem_map.1 hu; rfl
theorem run_firstCells_str {P : Program} (w : World) (sz : Nat) (s : ByteArray) : (Builtin.firstCells sz s.size (.string s)).run P w = .ok (strC s).toArray w := by
  have e : (s.extract 0 s.size).data.map (fun b : UInt8 => Value.int IntKind.u8 (b.toNat : Int)) = (strC s).toArray := by
    apply Array.ext'
    simp [strC, strI]
  simp only [Builtin.firstCells, Sem.run_pure, e]
theorem run_appendStr {P : Program} {tt : Nat → Option TI} [TT P tt] {w : World} {base t u ty e n : Nat} {i iu : TI} {s1 s2 : Nat} {z1 : Value} {f1 : List (Nat × Nat)} (ht : tt t = some ⟨.slice e, s1, s2, z1, f1⟩) (hu : tt u = some iu) (hiu : iu.desc = .string) (he : tt e = some i) (hz : i.zero.cells.size = i.size) (hsz : i.size = 1)
    {v : Value} {cs : List Value} {s : ByteArray} (hown : Oat w base e i.size v n cs)
    (h63 : n + s.size ≤ maxLen) (hbytes : (n + s.size) * i.bytes ≤ 140737488355328) (hbase : base ≤ w.heap.size) :
    ∃ v' w', (Builtin.append_ #[t, u] ty #[v, .string s]).run P w = .ok v' w' ∧ Oat w' base e i.size v' (n + s.size) (cs ++ strC s) ∧ Fr (fun k => v.ownBlock = some k) w w' ∧ ∀ k, v'.ownBlock = some k → v.ownBlock = some k ∨ w.heap.size ≤ k := by
  have hl := strC_len s
  have h1 := strC_one s
  have hf0 := fun w : World => run_firstCells_str (P := P) w i.size s
  obtain ⟨j, hj, h2, h3, h4⟩ := TT.info (P := P) e i he
  have hut := TT.und (P := P) t _ ht rfl
  have huu : P.underlying u = some .string := by rw [← hiu]; exact TT.und (P := P) u iu hu (by rw [hiu]; rfl)
  have hlen : (cs ++ strC s).length = (n + s.size) * i.size := by rw [List.length_append, hown.1, hl, hsz]; omega
  generalize strC s = news at *
  generalize hm : s.size = m at *
  have hsmall : n + m ≤ 9223372036854775807 := by simp only [maxLen] at h63; omega
  rcases hown.2 with ⟨rfl, rfl⟩ | ⟨g, off, cap, cur, rfl, hbg, hh, hnc, hcm, hcs, htake⟩
  · have hcs : cs = [] := List.eq_nil_of_length_eq_zero (by simpa using hown.1)
    subst hcs
    rcases Nat.eq_zero_or_pos m with h0 | h0
    · subst h0
      have hn : news = [] := List.eq_nil_of_length_eq_zero hl
      subst hn
      refine ⟨_, w, ?_, by simpa using hown, Fr.refl _ w, fun _ hk => .inl hk⟩
      have hf := hf0 w
      simp [Builtin.append_, run_underlying hut, run_underlying huu, sizeOf, typeInfo, hj, Builtin.lenOf, hm, h2, hf]
    · have hn' : m ≠ 0 := by omega
      have h63' : ¬ (9223372036854775807 < (m : Int)) := by omega
      have h48' : ¬ (281474976710656 < Builtin.nextslicecap m 0 * j.bytes) := by rw [nextslicecap_zero h0, h3]; simp only [Nat.zero_add] at hbytes; omega
      have hf := hf0 w.drew
      have hfo : (Builtin.firstCells i.size 0 (.slice none 0 0)).run P w.drew = .ok #[] w.drew := rfl
      refine ⟨.slice (some ⟨w.heap.size, 0, none⟩) (0 + m) (grownCap w m 0 e), w.drew.alloc (.cells (news.toArray ++ Builtin.zeroCells i.zero.cells (grownCap w m 0 e - m)) e), ?_, ⟨hlen, .inr ⟨w.heap.size, 0, _, _, rfl, hbase, heap_alloc_new w.drew _, ?_, ?_, ?_, ?_⟩⟩, (Fr.drew w).trans (Fr.alloc _ _), fun k hk => .inr (by simp only [Value.ownBlock, Option.some.injEq] at hk; omega)⟩
      · simp [Builtin.append_, run_underlying hut, run_underlying huu, sizeOf, typeInfo, zeroValue, hj, h4, Builtin.lenOf, hm, hn', h63', h48', Question.forced, newRow, grownCap, h2, hf, hfo]
      · rw [Nat.zero_add]; exact grownCap_ge w m 0 e
      · exact grownCap_le_maxLen w m 0 e (by omega)
      · have hge := grownCap_ge w m 0 e
        simp only [Array.size_append, List.size_toArray, size_zeroCells, hz, hl, hsz]
        omega
      · have e9 : (0 + m) * i.size = news.length := by rw [hl, hsz]; omega
        rw [e9]; simp
  · have hnews := trivial
    by_cases hroom : n + m ≤ cap
    · have hfit : off + n * i.size + 0 + news.length ≤ cur.size := by rw [hsz] at hcs ⊢; omega
      have hf := hf0 w
      have hst := run_storeCells_at P g (off + n * i.size) e news 0 cur w hh hfit h1
      simp only [Nat.add_zero] at hst
      have ha : (⟨g, off, none⟩ : Addr).add (n * i.size) = ⟨g, off + n * i.size, none⟩ := by unfold Addr.add; split <;> simp_all
      obtain ⟨row, hrow⟩ : ∃ row : List Value, row = cur.toList.take (off + n * i.size) ++ news ++ cur.toList.drop (off + n * i.size + news.length) := ⟨_, rfl⟩
      rw [← hrow] at hst
      refine ⟨.slice (some ⟨g, off, none⟩) (n + m) cap, w.setRow g row.toArray, ?_, ⟨hlen, .inr ⟨g, off, cap, row.toArray, rfl, hbg, setRow_heap w g cur _ e _ hh, hroom, hcm, ?_, ?_⟩⟩, (Fr.setRow w g _).mono fun k _ hk => (by simp [Value.ownBlock, hk]), fun _ hk => .inl hk⟩
      · simp [Builtin.append_, run_underlying hut, run_underlying huu, sizeOf, typeInfo, hj, h2, Builtin.lenOf, hm, hroom, hf, ha, hst]
      · subst hrow
        simp only [List.size_toArray, List.length_append, List.length_take, List.length_drop, Array.length_toList]
        omega
      · have e1 : cur.toList.take (off + n * i.size) = cur.toList.take off ++ cs := by
          rw [← htake, List.take_add]
        have hlo : (cur.toList.take off).length = off := by
          rw [List.length_take, Array.length_toList]; omega
        subst hrow
        show ((cur.toList.take (off + n * i.size) ++ news ++ _).drop off).take _ = _
        rw [e1, List.append_assoc, List.append_assoc, List.drop_append_of_le_length (by omega), List.drop_of_length_le (by omega), List.nil_append, ← List.append_assoc, ← hlen]
        exact List.take_left
    · have holds : ∀ k u, cs[k]? = some u → w.cell? ((⟨g, off, none⟩ : Addr).add k) = some u := by
        intro k u hk
        have hlt : k < cs.length := (List.getElem?_eq_some_iff.1 hk).1
        have ha : (⟨g, off, none⟩ : Addr).add k = ⟨g, off + k, none⟩ := by unfold Addr.add; split <;> simp_all
        rw [ha, cell_of_row w g (off + k) cur e (0, 0) hh, ← hk, ← htake, List.getElem?_take, if_pos (by rw [← hown.1]; exact hlt), List.getElem?_drop]
        simp
      have h63' : ¬ (9223372036854775807 < ((n : Int) + (m : Int))) := by omega
      have h48' : ¬ (281474976710656 < Builtin.nextslicecap (n + m) cap * j.bytes) := by have := growslice_fits (need := n + m) (old := cap) (bytes := j.bytes) (by omega) (by rw [h3]; exact hbytes); omega
      have hf := hf0 w.drew
      have hfo := run_firstCells_some (P := P) w.drew i.size n (⟨g, off, none⟩ : Addr) n cap cs hown.1 (by simpa using holds)
      refine ⟨.slice (some ⟨w.heap.size, 0, none⟩) (n + m) (grownCap w (n + m) cap e), w.drew.alloc (.cells (cs.toArray ++ news.toArray ++ Builtin.zeroCells i.zero.cells (grownCap w (n + m) cap e - (n + m))) e), ?_, ⟨hlen, .inr ⟨w.heap.size, 0, _, _, rfl, hbase, heap_alloc_new w.drew _, grownCap_ge w (n + m) cap e, grownCap_le_maxLen w (n + m) cap e h63, ?_, ?_⟩⟩, (Fr.drew w).trans (Fr.alloc _ _), fun k hk => .inr (by simp only [Value.ownBlock, Option.some.injEq] at hk; omega)⟩
      · simp [Builtin.append_, run_underlying hut, run_underlying huu, sizeOf, typeInfo, zeroValue, hj, h4, Builtin.lenOf, hm, hroom, h63', h48', Question.forced, h2, hf, hfo, newRow, grownCap]
        congr 2
        apply Array.ext'
        simp [List.append_assoc]
      · have hge := grownCap_ge w (n + m) cap e
        simp only [Array.size_append, List.size_toArray, size_zeroCells, hz, hown.1, hl, hsz, Nat.zero_add]
        omega
      · simp only [Array.toList_append, List.append_assoc, List.drop_zero]
        rw [← List.append_assoc, ← hlen]
        exact List.take_left
section
variable {P : Program} {tt : Nat → Option TI} [TT P tt] {ro : Option Nat} {N : Nat} {l rest : List Oper} {Q : Exit → Act → World → Prop} {E : List (Nat × Value)} {ds : List Deferred} {b : World} {F G : List SP}
  {d : Nat} {op : Op} {ty : TypeId} {pos : String} {aft : Array Edge} {g : Option (Nat × Bool)} {v : Value}
theorem so_appStr {t u e n s1 s2 : Nat} {z1 : Value} {f1 : List (Nat × Nat)} {i iu : TI} {x y : Operand} {s : ByteArray} {cs : List Value} (k : Nat) (hg : wants l E g = some true) (hd : Nat.blt d N = true)
    (hop : op = .call ⟨.builtin .append, ⟨[x, y]⟩, ⟨[t, u]⟩⟩) (ht : tt t = some ⟨.slice e, s1, s2, z1, f1⟩) (hu : tt u = some iu) (hiu : iu.desc = .string) (he : tt e = some i) (hi : (Nat.beq i.zero.cells.size 1 && Nat.beq i.size 1 && Nat.ble i.bytes 2097152) = true)
    (hx : ev E x = some v) (hy : ev E y = some (.string s)) (hF : nth F k = some (row e 1 v n cs)) (hn : n + s.size ≤ 67108864) {Gf : Value → List SP} (hG : ∀ v', setF F k (row e 1 v' (n + s.size) (cs ++ strC s)) = some (Gf v'))
    (h : ∀ v', SO P ro N l rest Q ((d, v') :: E) ds b (Gf v')) : SO P ro N l (⟨some d, op, ty, pos, aft, g⟩ :: rest) Q E ds b F := by
  simp only [Bool.and_eq_true] at hi
  obtain ⟨⟨h1', h2'⟩, h3'⟩ := hi
  have e1 := Nat.eq_of_beq_eq_true h1'; have e2 := Nat.eq_of_beq_eq_true h2'; have e3 := Nat.le_of_ble_eq_true h3'
  constructor
  intro w H
  subst hop
  have hbytes : (n + s.size) * i.bytes ≤ 140737488355328 := Nat.le_trans (Nat.mul_le_mul hn e3) (by decide)
  obtain ⟨v', w', hrun, ho, hf, hnb⟩ := run_appendStr (P := P) (ty := ty) ht hu hiu he (by rw [e1, e2]) e2 (s := s) (by rw [e2]; exact H.oat hF) (by unfold maxLen; omega) hbytes (Nat.zero_le _)
  rw [e2] at ho
  refine ow_ex hg ?_ hd ((h v').1 w' ?_)
  · intro ρ o hρ hop' hty
    subst hty
    simp only [execOp, hop', resolve, invoke, builtin, Sem.run_bind, Sem.run_pure, Result.andThen]
    have e1 : Array.map ρ #[x, y] = #[v, .string s] := by simp [hρ _ _ hx, hρ _ _ hy]
    simp only [e1, hrun]
  · obtain ⟨h3, l3, hA, hn3⟩ := oat_row ho
    refine H.upd k hF hf (fun h4 l4 hA4 => ?_) (hG v')
    have key : ∀ q, v.ownBlock = some q → h4 q ≠ none := by
      intro q hq
      rcases hA4.2 with ⟨rfl, _⟩ | ⟨g5, off5, cap5, cur5, rfl, hh5, _⟩
      · cases hq
      · simp only [Value.ownBlock, Option.some.injEq] at hq
        subst hq; rw [hh5]; simp
    exact ⟨fun q _ hq => key q hq, h3, l3, hA, fun q hq => (hnb q (hn3 q hq).2).imp (key q) id⟩
/-- One element, of several cells, of an array. -/
theorem pu_ixA {t e n s1 s2 : Nat} {z1 : Value} {f1 : List (Nat × Nat)} {i : TI} {x y : Operand} {cs us : List Value} {k : IntKind} {j : Int} (ht : tt t = some ⟨.array n e, s1, s2, z1, f1⟩) (he : tt e = some i) (hagg : aggT i.desc = true) (hx : ev E x = some (.agg ⟨cs⟩)) (hy : ev E y = some (.int k j)) (hj : 0 ≤ j ∧ j < n)
    (hu : (cs.drop (j.toNat * i.size)).take i.size = us) : Pu P E (.index t x y) ty (.agg ⟨us⟩) := by
  intro w ρ o hρ ho _
  have hex : (⟨cs⟩ : Array Value).extract (j.toNat * i.size) (j.toNat * i.size + i.size) = ⟨us⟩ := by
    apply Array.ext'
    rw [← hu]
    simp [List.extract_eq_take_drop]
  simp only [execOp, ho, hρ _ _ hx, hρ _ _ hy, Instr.index, asIntOf, Sem.run_bind, Sem.run_pure, Result.andThen, TT.run_und ht rfl, hj, if_true]
  rw [if_pos ⟨trivial, trivial⟩]
  simp only [part, Sem.run_bind, run_isAgg he, hagg, TT.run_size he, Result.andThen, if_true, Sem.run_pure, hex]
theorem sd_exv {fl : Oper → Bool} {kk : Nat} {F0 : List SP} (hg : wants l E g = some true) (hf : fl ⟨some d, op, ty, pos, aft, g⟩ = false) (hd : Nat.blt d N = true) (hx : ∀ w, Sat b F w → ∃ w', Ex P E op ty w v w' ∧ Sat b G w') (hE : Ent G F0) (h : SD P fl ro N F0 l (kk + 1) rest Q ((d, v) :: E) ds b G) : SD P fl ro N F0 l kk (⟨some d, op, ty, pos, aft, g⟩ :: rest) Q E ds b F := ⟨fun w H => by
  obtain ⟨w', h2, h3⟩ := hx w H
  exact dw_ex hg hf h2 (h3.ent hE) hd (h.1 _ h3)⟩
end
end Go.Eng
/- The engine, part forty-eight: a drawn region in which one operation with an effect (y) may be run at any time among others (R), once what it waits for (L: all of it reads) is done; what comes behind (t) waits for it. Conditions: as part seven, 'okSlide' reckoned. -/
namespace Go.Eng
open Go Go.RowKit

section
variable {P : Program} {ro : Option Nat} {l : List Oper} {Q Q' : Exit → Act → World → Prop} {S : World → Prop} {fl : Oper → Bool} {y : Nat} {oy : Oper}
end

section
variable {fl : Oper → Bool} {l : List Oper} {y : Nat} {oy : Oper}
end

/-! ### Walked -/
section
variable {P : Program} {fl : Oper → Bool} {ro : Option Nat} {N : Nat} {l : List Oper} {Q Q' : Exit → Act → World → Prop} {E : List (Nat × Value)} {ds : List Deferred} {b : World} {F F0 : List SP} {y : Nat} {oy : Oper}
end
end Go.Eng
/- The engine, part forty-nine: entries of a map literal. Conditions: as part twenty-three. -/
namespace Go.Eng
open Go Go.RowKit Go.MapKept
open Go.ChangeMaps (setBlock)

section
variable {P : Program} {tt : Nat → Option TI} [TT P tt] {ro : Option Nat} {N : Nat} {l rest : List Oper} {Q : Exit → Act → World → Prop} {E : List (Nat × Value)} {ds : List Deferred} {b : World} {F G : List SP}
  {op : Op} {ty : TypeId} {pos : String} {aft : Array Edge} {g : Option (Nat × Bool)} {v : Value}
  {α : Type} [DecidableEq α] {K : α → Value} {ok : α → Prop} {L : List (α × Value)} {a : α}
theorem eu_ins {t k e s1 s2 gm q : Nat} {z1 : Value} {f1 : List (Nat × Nat)} {m x y : Operand} (M : MK P k K ok) (ht : tt t = some ⟨.map k e, s1, s2, z1, f1⟩) (hm : ev E m = some (.map (some gm))) (hx : ev E x = some (K a)) (hy : ev E y = some v) (ha : ok a)
    (hF : nth F q = some (mp gm K ok L)) (hG : setF F q (mp gm K ok (putM a v L)) = some G) : ∀ w, Sat b F w → ∃ w', Eu P E (.insert t m x y) ty w w' ∧ Sat b G w' := fun w H => by
  obtain ⟨w', h1, h2⟩ := eu_put (P := P) (ty := ty) M ht hm hx hy ha hF hG w H
  refine ⟨w', fun ρ o hρ ho ht' => ?_, h2⟩
  have := h1 ρ ⟨o.dst, .mapUpdate t m x y, o.type, o.pos, o.after, o.guard⟩ hρ rfl ht'
  simpa [execOp, ho] using this
theorem so_ins (q : Nat) {t k e s1 s2 gm : Nat} {z1 : Value} {f1 : List (Nat × Nat)} {m x y : Operand} (M : MK P k K ok) (ha : ok a) (hg : wants l E g = some true) (hop : op = .insert t m x y) (ht : tt t = some ⟨.map k e, s1, s2, z1, f1⟩) (hm : ev E m = some (.map (some gm))) (hx : ev E x = some (K a)) (hy : ev E y = some v)
    (hF : nth F q = some (mp gm K ok L)) (hG : setF F q (mp gm K ok (putM a v L)) = some G) (h : SO P ro N l rest Q E ds b G) : SO P ro N l (⟨none, op, ty, pos, aft, g⟩ :: rest) Q E ds b F := by
  subst hop; exact so_wr (w1 := fun _ _ => True) hg (eu_ins M ht hm hx hy ha hF hG) h
end
end Go.Eng
/- The engine, part fifty: a part of a struct that is a value. Conditions: none. -/
namespace Go.Eng
open Go Go.RowKit

section
variable {P : Program} {tt : Nat → Option TI} [TT P tt] {E : List (Nat × Value)} {ty : TypeId}
theorem fld_at {fs : Array Field} {fl : List (Nat × Nat)} (h : fs.toList.map (fun f => (f.type, f.offset)) = fl) {k ft fo : Nat} (hn : nth fl k = some (ft, fo)) : ∃ f : Field, fs[k]? = some f ∧ f.type = ft ∧ f.offset = fo := by
  rw [nth_eq, ← h, List.getElem?_map] at hn
  cases hf : fs.toList[k]? with
  | none => rw [hf] at hn; cases hn
  | some f =>
    rw [hf] at hn
    simp only [Option.map_some, Option.some.injEq, Prod.mk.injEq] at hn
    exact ⟨f, by rw [← Array.getElem?_toList]; exact hf, hn.1, hn.2⟩
/-- A field of one cell. -/
theorem pu_fld {t k ft fo : Nat} {i j : TI} {x : Operand} {cs : List Value} {v : Value} (ht : tt t = some i) (hs : isSt i.desc = true) (hn : nth i.flds k = some (ft, fo)) (hft : tt ft = some j) (hagg : aggT j.desc = false) (hx : ev E x = some (.agg ⟨cs⟩)) (hv : nth cs fo = some v) : Pu P E (.field t x k) ty v := by
  intro w ρ o hρ ho _
  obtain ⟨fs, h1, h2⟩ := TT.run_st (P := P) ht hs
  obtain ⟨f, h3, rfl, rfl⟩ := fld_at h2 hn
  have hv' : cs[f.offset]? = some v := by rw [← nth_eq]; exact hv
  simp only [execOp, ho, hρ _ _ hx, Instr.field, Sem.run_bind, h1, Result.andThen, h3, asAgg, Sem.run_pure, part, run_isAgg hft, hagg]
  simp [hv']
end
end Go.Eng
/- The engine, part fifty-one: a drawn region whose first operations stand unordered: each yields a value and pieces of its own, whatever else was made meanwhile. Conditions: as part seven. -/
namespace Go.Eng
open Go Go.RowKit

section
variable {P : Program} {tt : Nat → Option TI} [TT P tt] {ro : Option Nat} {N n : Nat} {l rest : List Oper} {Q : Exit → Act → World → Prop} {E E0 : List (Nat × Value)} {ds : List Deferred} {b : World} {F F0 : List SP} {fl : Oper → Bool}

structure RelSt (N : Nat) (l : List Oper) (E0 : List (Nat × Value)) (ds : List Deferred) (b : World) (F : List SP) (R : Nat → Value → List SP → Prop) (done : List Nat) (vs : Nat → Value) (Xs : Nat → List SP) (a : Act) (w : World) : Prop where
  kn : Kn N E0 a
  dfs : a.defers = ds
  slot : ∀ i ∈ done, a.tmps[dstOf l i]? = some (vs i)
  fact : ∀ i ∈ done, R i (vs i) (Xs i)
  sat : Sat b (done.flatMap Xs ++ F) w
theorem RelSt.kn_of {R : Nat → Value → List SP → Prop} {done : List Nat} {vs : Nat → Value} {Xs : Nat → List SP} {a : Act} {w : World} (h : RelSt N l E0 ds b F R done vs Xs a w) : ∀ (M : List Nat), (∀ j ∈ M, j ∈ done) → Kn N (knOf l E0 vs M) a
  | [], _ => h.kn
  | j :: M, hM => by
    have ih := h.kn_of M (fun k hk => hM k (List.mem_cons_of_mem _ hk))
    refine ⟨ih.1, fun i v hv => ?_⟩
    simp only [knOf, look] at hv
    split at hv
    · rename_i hb
      have := Nat.eq_of_beq_eq_true hb
      subst this
      cases hv
      exact h.slot j (hM j List.mem_cons_self)
    · exact ih.2 i v hv
theorem flatMap_same {f g : Nat → List SP} : ∀ {L : List Nat}, (∀ j ∈ L, f j = g j) → L.flatMap f = L.flatMap g
  | [], _ => rfl
  | x :: L, h => by rw [List.flatMap_cons, List.flatMap_cons, h x List.mem_cons_self, flatMap_same fun j hj => h j (List.mem_cons_of_mem _ hj)]
theorem region_rel (hn : n ≤ l.length) (hok : okExt fl n N E0 l = true) (hm : P.follows .mixedOrders = true) {id : Nat} {a : Act} {w : World} (hk : Kn N E0 a) (hds : a.defers = ds) (H0 : Sat b F w)
    (R : Nat → Value → List SP → Prop)
    (hop : ∀ i o, i < n → l[i]? = some o → ∀ (vs : Nat → Value) (Xs : Nat → List SP) a A w', Sat b (A ++ F) w' → Kn N (knOf l E0 vs (ancs l i)) a → (∀ j ∈ ancs l i, R j (vs j) (Xs j)) → Eff P ro o a w' fun v w'' => ∃ X, R i v X ∧ Sat b (X ++ (A ++ F)) w'')
    (hend : ∀ (vs : Nat → Value) (Xs : Nat → List SP) a w', (∀ i, i < n → R i (vs i) (Xs i)) → Kn N (knOf l E0 vs (List.range n)) a → a.defers = ds → Sat b ((List.range n).flatMap Xs ++ F) w' → Sat b F0 w' ∧ Tx P fl ro l (Sat b F0) Q (List.range' n (l.length - n)) a w') :
    (Code.region id l.toArray true).wpIn (FR ro) 0 P Q a w := by
  have hb : okBack l = true := by simp only [okExt, Bool.and_eq_true] at hok; exact hok.1
  have hns := okBack_ns hb
  have hback : ∀ i, ∀ j ∈ ancs l i, i < l.length → j < i := by
    intro i j hj hi
    cases hlt : decide (j < i) with
    | true => exact of_decide_eq_true hlt
    | false =>
      exfalso
      have hge : i ≤ j := by have := of_decide_eq_false hlt; omega
      let lst : Array Bool := ((List.range l.length).map fun k => decide (k < i)).toArray
      have hget : ∀ k, lst.getD k false = true ↔ k < l.length ∧ k < i := by
        intro k
        simp only [lst, Array.getD_eq_getD_getElem?, List.getElem?_toArray, List.getElem?_map]
        by_cases hk : k < l.length
        · simp [List.getElem?_range hk, hk]
        · simp [List.getElem?_eq_none (l := List.range l.length) (by simpa using hk), hk]
      have hcl : Closed l lst := by
        intro k o hk ho e he hbd
        have := okBack_back hb k o ho e he hbd
        have h2 := (hget k).1 hk
        exact (hget _).2 ⟨by omega, by omega⟩
      have := ancT_sound hcl l [] [] rfl rfl (fun i o h => by simp at h) i l[i] (List.getElem?_eq_getElem hi) (fun e he hbd => (hget _).2 (by
        have := okBack_back hb i l[i] (List.getElem?_eq_getElem hi) e he hbd; omega)) j hj
      have := (hget j).1 this
      omega
  have nd2 : (List.range' n (l.length - n)).Nodup := List.nodup_range'
  have pw2 : (List.range' n (l.length - n)).Pairwise (· < ·) := List.pairwise_lt_range' (s := n) (n := l.length - n)
  let J : Array Bool → Act → World → Prop := fun listed a w' => ∃ done : List Nat, done.Nodup ∧ (∀ i, i ∈ done ↔ i < n ∧ listed.getD i false = true) ∧ (∀ i, n ≤ i → i < l.length → listed.getD i false = false) ∧ ∃ vs Xs, RelSt N l E0 ds b F R done vs Xs a w'
  let I : Array Bool → Act → World → Prop := fun listed a w' => J listed a w' ∨
    ((∀ j, j < n → listed.getD j false = true) ∧ Sat b F0 w' ∧ Tx P fl ro l (Sat b F0) Q (Eng.rest (List.range' n (l.length - n)) listed) a w')
  have conv : ∀ (listed : Array Bool) (a : Act) (w' : World), listed.size = l.length → I listed a w' → (∃ j, j < n ∧ listed.getD j false = false ∧ J listed a w') ∨
      ((∀ j, j < n → listed.getD j false = true) ∧ Sat b F0 w' ∧ Tx P fl ro l (Sat b F0) Q (Eng.rest (List.range' n (l.length - n)) listed) a w') := by
    rintro listed a w' hsz (⟨done, d1, d2, h1, vs, Xs, h2⟩ | h)
    · by_cases hall : ∀ j, j < n → listed.getD j false = true
      · right
        have hmem : ∀ i, i < n → i ∈ done := fun i hi => (d2 i).2 ⟨hi, hall i hi⟩
        have hp : done.Perm (List.range n) := (List.perm_ext_iff_of_nodup d1 List.nodup_range).2 fun i => by
          rw [List.mem_range]
          exact ⟨fun h => ((d2 i).1 h).1, hmem i⟩
        have h3 := hend vs Xs a w' (fun i hi => h2.fact i (hmem i hi)) (h2.kn_of (List.range n) fun j hj => hmem j (List.mem_range.1 hj)) h2.dfs (h2.sat.ent (ent_perm ((hp.flatMap_right Xs).append_right F)))
        refine ⟨hall, h3.1, ?_⟩
        have : Eng.rest (List.range' n (l.length - n)) listed = List.range' n (l.length - n) := by
          unfold Eng.rest
          rw [List.filter_eq_self]
          intro i hi
          rw [List.mem_range'_1] at hi
          have := h1 i hi.1 (by omega)
          rw [← getD_both (by omega)] at this
          simp [this]
        rw [this]
        exact h3.2
      · left
        obtain ⟨j, hj⟩ := Classical.not_forall.1 hall
        obtain ⟨hj1, hj2⟩ := Classical.not_imp.1 hj
        exact ⟨j, hj1, by simpa using hj2, done, d1, d2, h1, vs, Xs, h2⟩
    · exact .inr h
  refine region_inv hb hm I ?_ ?_ ?_
  · left
    have hfa : ∀ i, ¬ ((Array.replicate l.length false).getD i false = true) := by
      intro i h
      rw [Array.getD_eq_getD_getElem?, Array.getElem?_replicate] at h
      split at h <;> cases h
    exact ⟨[], List.nodup_nil, fun i => ⟨fun h => (by cases h), fun h => absurd h.2 (hfa i)⟩, fun i _ hi => (by simp [hi]), fun _ => undef, fun _ => [], hk, hds, fun i h => (by cases h), fun i h => (by cases h), H0.ext (Fr.drew w)⟩
  · intro listed a w' i o hsz hcl hI ho hf hdeps
    have hlt : i < l.length := (List.getElem?_eq_some_iff.1 ho).1
    have hancl : ∀ r ∈ ancs l i, listed.getD r false = true := fun r hr => ancT_sound hcl l [] [] rfl rfl (fun i o h => by simp at h) i o ho hdeps r hr
    rcases conv listed a w' hsz hI with ⟨j0, hj0, hun0, done, d1, d2, h1, vs, Xs, h2⟩ | ⟨h1, h2, h3⟩
    · have hin : i < n := by
        rcases Nat.lt_or_ge i n with h | h
        · exact h
        · rcases okExt_pair hok i j0 o l[j0] ho (List.getElem?_eq_getElem (by omega)) h (by omega) with hm | hm
          · rw [hancl j0 hm] at hun0; cases hun0
          · omega
      obtain ⟨o', d, ho', hg, hd, hdN, hE0, hne⟩ := okExt_op hok hin
      rw [ho] at ho'; cases ho'
      have hwant : Region.wanted o (yielded l.toArray a.tmps) = true := by simp [Region.wanted, hg]
      have hancn : ∀ j ∈ ancs l i, j ∈ done := fun j hj => (d2 j).2 ⟨by have := hback i j hj hlt; omega, hancl j hj⟩
      have hid : i ∉ done := fun h => by have := ((d2 i).1 h).2; rw [hf] at this; cases this
      refine ⟨fun _ => ?_, fun hc => by rw [hwant] at hc; cases hc⟩
      refine (hop i o hin ho vs Xs a (done.flatMap Xs) w' h2.sat (h2.kn_of _ hancn) (fun j hj => h2.fact j (hancn j hj))).mono ?_
      rintro v w'' ⟨X, hR, hS⟩
      left
      have hoth : ∀ j, j ∈ done → j ≠ i := fun j hj e => hid (e ▸ hj)
      have hfm : done.flatMap (fun j => if j = i then X else Xs j) = done.flatMap Xs := flatMap_same fun j hj => if_neg (hoth j hj)
      refine ⟨i :: done, List.nodup_cons.2 ⟨hid, d1⟩, fun j => ?_, fun k hk hkl => by rw [getD_set_ne false (by omega)]; exact h1 k hk hkl, upv vs i v, fun j => if j = i then X else Xs j, ?_⟩
      · rw [List.mem_cons, d2 j]
        by_cases hji : j = i
        · subst hji
          have e : (listed.setIfInBounds j true).getD j false = true := by rw [Array.getD_eq_getD_getElem?, Array.getElem?_setIfInBounds, if_pos rfl, if_pos (by omega)]; rfl
          rw [e]; simp [hin]
        · rw [getD_set_ne false (fun e => hji e.symm)]
          simp [hji]
      · have hdi : dstOf l i = d := by simp [dstOf, ho, hd]
        have hsz' := h2.kn.1
        rw [hd]
        refine ⟨⟨by simp [Act.put, hsz'], fun k u hk => ?_⟩, by rw [put_defers']; exact h2.dfs, fun j hj => ?_, fun j hj => ?_, ?_⟩
        · have hkd : d ≠ k := by intro e; subst e; rw [hE0] at hk; cases hk
          simp only [Act.put]
          rw [Array.getElem?_setIfInBounds_ne hkd]
          exact h2.kn.2 k u hk
        · rcases List.mem_cons.1 hj with rfl | hj
          · rw [hdi]
            simp [Act.put, hsz', hdN, upv]
          · have hji := hoth j hj
            have hjn := ((d2 j).1 hj).1
            simp only [Act.put, upv, if_neg hji]
            rw [Array.getElem?_setIfInBounds_ne (hne j hjn hji).symm]
            exact h2.slot j hj
        · rcases List.mem_cons.1 hj with rfl | hj
          · simpa [upv] using hR
          · have hji := hoth j hj
            simpa [upv, hji] using h2.fact j hj
        · rw [List.flatMap_cons, hfm, List.append_assoc]
          simpa using hS
    · have hin : n ≤ i := by
        rcases Nat.lt_or_ge i n with h | h
        · rw [h1 i h] at hf; cases hf
        · exact h
      have hft : listed.getD i true = false := by rw [getD_both (by omega)]; exact hf
      obtain ⟨g1, g2⟩ := step_of_Tx (fl := fl) hns nd2 pw2 (List.mem_range'_1.2 ⟨hin, by omega⟩) ho (by omega) hft (fun r hr hu _ p hp => by
        rcases okExt_pair hok i r o p ho hp hin hr with hm | hm
        · have hrl : r < l.length := (List.getElem?_eq_some_iff.1 hp).1
          rw [getD_both (by omega), hancl r hm] at hu; cases hu
        · exact hm.2) h2 h3
      have keep : ∀ j, j < n → (listed.setIfInBounds i true).getD j false = true := fun j hj => by
        rw [getD_set_ne false (by omega)]; exact h1 j hj
      exact ⟨fun hw => (g1 hw).mono fun v w' ⟨hS', ht⟩ => .inr ⟨keep, hS', ht⟩, fun hw => .inr ⟨keep, h2, g2 hw⟩⟩
  · intro listed a w' hsz hI hall
    rcases conv listed a w' hsz hI with ⟨j0, hj0, hun0, _⟩ | ⟨h1, h2, h3⟩
    · have := hall j0 (by omega)
      rw [hun0] at this
      cases this
    · have : Eng.rest (List.range' n (l.length - n)) listed = [] := by
        unfold Eng.rest
        rw [List.filter_eq_nil_iff]
        intro k hk
        rw [List.mem_range'_1] at hk
        rw [getD_both (by omega), hall k (by omega)]
        simp
      rw [this] at h3
      exact h3

/-! ## Walked -/
/-- What an operation of the first part tells: its value; a new block; a value and pieces. -/
inductive FR2 where
  | val (v : Value)
  | new (t : Nat) (zs : List Value)
  | rel (R : Value → List SP → Prop)
def FR2.ok : FR2 → Value → List SP → Prop
  | .val u => fun v X => v = u ∧ X = []
  | .new t zs => fun v X => ∃ g, v = .pointer (some ⟨g, 0, none⟩) ∧ X = [pt g t zs]
  | .rel R => R
def vvR (D : List FR2) (vs : Nat → Value) (j : Nat) : Value := match nth D j with | some (.val v) => v | _ => vs j
def gvR (D : List FR2) (gs : Nat → Nat) (us : Nat → Value) (j : Nat) : Value := match nth D j with | some (.val v) => v | some (.new _ _) => .pointer (some ⟨gs j, 0, none⟩) | _ => us j
def newR (gs : Nat → Nat) (Ys : Nat → List SP) : Nat → List FR2 → List SP
  | _, [] => []
  | j, .val _ :: D => newR gs Ys (j + 1) D
  | j, .new t zs :: D => pt (gs j) t zs :: newR gs Ys (j + 1) D
  | j, .rel _ :: D => Ys j ++ newR gs Ys (j + 1) D
def okR (us : Nat → Value) (Ys : Nat → List SP) : Nat → List FR2 → Prop
  | _, [] => True
  | j, .rel R :: D => R (us j) (Ys j) ∧ okR us Ys (j + 1) D
  | j, _ :: D => okR us Ys (j + 1) D
def OpOkR (P : Program) (ro : Option Nat) (N : Nat) (l : List Oper) (E0 : List (Nat × Value)) (b : World) (F : List SP) (D : List FR2) (o : Oper) (x : FR2) : Prop :=
  ∀ vs a A w', Sat b (A ++ F) w' → Kn N (knOf l E0 (vvR D vs) (dirs o)) a → Eff P ro o a w' fun v w'' => ∃ X, x.ok v X ∧ Sat b (X ++ (A ++ F)) w''
inductive RC (P : Program) (fl : Oper → Bool) (ro : Option Nat) (N n : Nat) (l : List Oper) (E0 : List (Nat × Value)) (ds : List Deferred) (b : World) (F F0 : List SP) (Q : Exit → Act → World → Prop) : List FR2 → List Oper → Prop
  | done {D : List FR2} {rest : List Oper} (h0 : Nat.beq D.length n = true) (h : ∀ gs us Ys, okR us Ys 0 D → Ent (newR gs Ys 0 D ++ F) F0 ∧ SD P fl ro N F0 l n rest Q (knOf l E0 (gvR D gs us) (List.range n)) ds b (newR gs Ys 0 D ++ F)) : RC P fl ro N n l E0 ds b F F0 Q D rest
  | step {D : List FR2} {rest : List Oper} {o : Oper} {x : FR2} (h1 : OpOkR P ro N l E0 b F D o x) (h : RC P fl ro N n l E0 ds b F F0 Q (D ++ [x]) rest) : RC P fl ro N n l E0 ds b F F0 Q D (o :: rest)
theorem nth_appR {D D' : List FR2} {j : Nat} {x : FR2} (h : nth D j = some x) : nth (D ++ D') j = some x := by
  rw [nth_eq] at h ⊢
  rw [List.getElem?_append_left (List.getElem?_eq_some_iff.1 h).1]; exact h
theorem RC.facts {D : List FR2} {rest : List Oper} (h : RC P fl ro N n l E0 ds b F F0 Q D rest) : rest = l.drop D.length → ∃ D', (∀ j x, nth D j = some x → nth D' j = some x) ∧ D'.length = n ∧ (∀ i o x, D.length ≤ i → l[i]? = some o → nth D' i = some x → ∃ D0, (∀ j x, nth D0 j = some x → nth D' j = some x) ∧ OpOkR P ro N l E0 b F D0 o x) ∧
    ∀ gs us Ys, okR us Ys 0 D' → Ent (newR gs Ys 0 D' ++ F) F0 ∧ SD P fl ro N F0 l n (l.drop n) Q (knOf l E0 (gvR D' gs us) (List.range n)) ds b (newR gs Ys 0 D' ++ F) := by
  induction h with
  | @done D rest h0 h =>
    intro hr
    have h0 := Nat.eq_of_beq_eq_true h0
    refine ⟨D, fun _ _ h => h, h0, fun i o x hi ho hx => ?_, by rw [← h0, ← hr]; rw [h0]; exact h⟩
    rw [nth_eq] at hx
    have := (List.getElem?_eq_some_iff.1 hx).1; omega
  | @step D rest o x h1 h ih =>
    intro hr
    have hlen : (D ++ [x]).length = D.length + 1 := by simp
    have hr' : rest = l.drop (D ++ [x]).length := by
      rw [hlen]
      have := congrArg List.tail hr
      simpa [List.tail_drop] using this
    obtain ⟨D', k1, k2, k3, k4⟩ := ih hr'
    refine ⟨D', fun j y hy => k1 j y (nth_appR hy), k2, fun i o' y hi ho hy => ?_, k4⟩
    by_cases he : i = D.length
    · subst he
      have : l[D.length]? = some o := by
        have := congrArg (fun z => z[0]?) hr
        simpa using this.symm
      rw [this] at ho; cases ho
      have hx : nth D' D.length = some x := k1 _ _ (by rw [nth_eq]; simp)
      rw [hx] at hy; cases hy
      exact ⟨D, fun j y hy => k1 j y (nth_appR hy), h1⟩
    · exact k3 i o' y (by rw [hlen]; omega) ho hy
/-- What was told of each, gathered. -/
theorem rel_gather {vs : Nat → Value} {Xs : Nat → List SP} : ∀ (D : List FR2) (j0 : Nat), (∀ j x, nth D j = some x → x.ok (vs (j0 + j)) (Xs (j0 + j))) →
    okR vs Xs j0 D ∧ ∀ m, D.length = m → (List.range' j0 m).flatMap Xs = newR (fun j => match vs j with | .pointer (some a) => a.block | _ => 0) Xs j0 D
  | [], j0, _ => ⟨trivial, fun m hm => by subst hm; rfl⟩
  | x :: D, j0, h => by
    obtain ⟨i1, i2⟩ := rel_gather D (j0 + 1) (fun j x hj => by have := h (j + 1) x (by simpa [nth] using hj); rwa [show j0 + (j + 1) = j0 + 1 + j by omega] at this)
    have hx := h 0 x rfl
    rw [Nat.add_zero] at hx
    have hcons : ∀ m, (x :: D).length = m → (List.range' j0 m).flatMap Xs = Xs j0 ++ newR (fun j => match vs j with | .pointer (some a) => a.block | _ => 0) Xs (j0 + 1) D := fun m hm => by
      subst hm
      rw [List.length_cons, List.range'_succ, List.flatMap_cons, i2 _ rfl]
    cases x with
    | val u => exact ⟨i1, fun m hm => by rw [hcons m hm, hx.2]; rfl⟩
    | new t zs =>
      obtain ⟨g, h1, h2⟩ := hx
      refine ⟨i1, fun m hm => ?_⟩
      rw [hcons m hm, h2]
      simp only [newR, h1, List.cons_append, List.nil_append]
    | rel R => exact ⟨⟨hx, i1⟩, fun m hm => by rw [hcons m hm]; rfl⟩
theorem sw_rel (n : Nat) (F0 : List SP) [hm : Mixed P] {id : Nat} (E0 : List (Nat × Value)) (hsub : Sub E0 E) (hn : Nat.ble n l.length = true) (hok : okExt fl n N E0 l = true) (hdir : okDirs l n = true) (h : RC P fl ro N n l E0 ds b F F0 Q [] l) :
    SW P ro N (.region id l.toArray true) Q E ds b F := by
  constructor
  intro w H a hka hda
  obtain ⟨D, _, hlen, hf, hend⟩ := h.facts rfl
  have hx : ∀ i, i < n → ∃ x, nth D i = some x := fun i hi => ⟨D[i]'(by omega), by rw [nth_eq]; exact List.getElem?_eq_getElem _⟩
  have hds : ∀ j, j < n → look E0 (dstOf l j) = none ∧ ∀ k, k < n → k ≠ j → dstOf l k ≠ dstOf l j := fun j hj => by
    obtain ⟨o, d, h1, _, h2, _, h3, h4⟩ := okExt_op hok hj
    have : dstOf l j = d := by simp [dstOf, h1, h2]
    rw [this]; exact ⟨h3, h4⟩
  refine region_rel (F0 := F0) (Nat.le_of_ble_eq_true hn) hok hm.on (hka.sub hsub) hda H (fun i v X => ∀ x, nth D i = some x → x.ok v X) ?_ ?_
  · intro i o hi ho vs Xs a A w' H' hk hφ
    obtain ⟨x, hxi⟩ := hx i hi
    obtain ⟨D0, hD0, hopk⟩ := hf i o x (Nat.zero_le _) ho hxi
    have hdi := List.all_eq_true.1 hdir i (List.mem_range.2 hi)
    simp only [ho, Bool.and_eq_true] at hdi
    have hsubs : ∀ j ∈ dirs o, j ∈ ancs l i := fun j hj => List.contains_iff_mem.1 (List.all_eq_true.1 hdi.1 j hj)
    have hltn : ∀ j ∈ ancs l i, j < n := fun j hj => Nat.le_of_ble_eq_true (List.all_eq_true.1 hdi.2 j hj)
    have hk0 : Kn N (knOf l E0 vs (dirs o)) a := ⟨hk.1, fun k v hkv => hk.2 k v (by
      rcases look_inv hkv with ⟨j, h1, rfl, rfl⟩ | h1
      · exact (look_kn hds hltn).1 j (hsubs j h1)
      · exact (look_kn hds hltn).2 k v h1)⟩
    have hvv : knOf l E0 vs (dirs o) = knOf l E0 (vvR D0 vs) (dirs o) := knOf_congr fun j hj => by
      have hφj := hφ j (hsubs j hj)
      cases hd0 : nth D0 j with
      | none => simp [vvR, hd0]
      | some y =>
        have h2 := hφj y (hD0 j y hd0)
        cases y with
        | val u => simp only [FR2.ok] at h2; simp [vvR, hd0, h2.1]
        | new t zs => simp [vvR, hd0]
        | rel R => simp [vvR, hd0]
    rw [hvv] at hk0
    refine (hopk vs a A w' H' hk0).mono ?_
    rintro v w'' ⟨X, h1, h2⟩
    exact ⟨X, fun y hy => by rw [hxi] at hy; cases hy; exact h1, h2⟩
  · intro vs Xs a w' hR hk hd' H'
    obtain ⟨g1, g2⟩ := rel_gather (vs := vs) (Xs := Xs) D 0 (fun j x hj => by rw [Nat.zero_add]; exact hR j (by rw [nth_eq] at hj; have := (List.getElem?_eq_some_iff.1 hj).1; omega) x hj)
    have hr : (List.range n).flatMap Xs = newR (fun j => match vs j with | .pointer (some a) => a.block | _ => 0) Xs 0 D := by rw [← g2 n hlen, List.range_eq_range']
    rw [hr] at H'
    obtain ⟨e1, e2⟩ := hend (fun j => match vs j with | .pointer (some a) => a.block | _ => 0) vs Xs g1
    have hE1 : knOf l E0 vs (List.range n) = knOf l E0 (gvR D (fun j => match vs j with | .pointer (some a) => a.block | _ => 0) vs) (List.range n) := knOf_congr fun j hj => by
      have hjn := List.mem_range.1 hj
      obtain ⟨x, hxj⟩ := hx j hjn
      have h2 := hR j hjn x hxj
      cases x with
      | val u => simp only [FR2.ok] at h2; simp [gvR, hxj, h2.1]
      | new t zs => obtain ⟨g, h3, _⟩ := h2; simp [gvR, hxj, h3]
      | rel R => simp [gvR, hxj]
    rw [hE1] at hk
    refine ⟨H'.ent e1, ?_⟩
    have := e2.1 w' H' a hk hd' (H'.ent e1) (by intro j hj; simp [List.getElem?_drop])
    rwa [List.length_drop] at this

/-! ## Steps of the first part -/
variable {D : List FR2} {d : Nat} {op : Op} {ty : TypeId} {pos : String} {aft : Array Edge} {g : Option (Nat × Bool)} {v : Value}
abbrev envR (l : List Oper) (E0 : List (Nat × Value)) (D : List FR2) (o : Oper) (vs : Nat → Value) : List (Nat × Value) := knOf l E0 (vvR D vs) (dirs o)
theorem ent_post (A : List SP) : Ent (A ++ F) F := (ent_perm List.perm_append_comm).trans (ent_pre A)
theorem fr_ex (hx : ∀ vs w, Sat b F w → Ex P (envR l E0 D ⟨some d, op, ty, pos, aft, g⟩ vs) op ty w v w) (h : RC P fl ro N n l E0 ds b F F0 Q (D ++ [.val v]) rest) : RC P fl ro N n l E0 ds b F F0 Q D (⟨some d, op, ty, pos, aft, g⟩ :: rest) :=
  .step (x := .val v) (fun vs _ A w' H hk => eff_ex hk (hx vs w' (H.ent (ent_post A))) ⟨[], ⟨rfl, rfl⟩, H⟩) h
theorem fr_p (hx : ∀ vs, pev tt (envR l E0 D ⟨some d, op, ty, pos, aft, g⟩ vs) op = some v) (h : RC P fl ro N n l E0 ds b F F0 Q (D ++ [.val v]) rest) : RC P fl ro N n l E0 ds b F F0 Q D (⟨some d, op, ty, pos, aft, g⟩ :: rest) :=
  fr_ex (fun vs w _ => pev_sound (tt := tt) (hx vs) w) h
theorem fr_ldA {t g' t0 off : Nat} {x : Operand} {i : TI} {cs us : List Value} (q : Nat) (hop : op = .load t x) (ht : tt t = some i) (hagg : aggT i.desc = true) (hx : ∀ vs, ev (envR l E0 D ⟨some d, op, ty, pos, aft, g⟩ vs) x = some (.pointer (some ⟨g', off, none⟩))) (hF : nth F q = some (pt g' t0 cs)) (hv : segO cs off i.size = some us)
    (h : RC P fl ro N n l E0 ds b F F0 Q (D ++ [.val (.agg ⟨us⟩)]) rest) : RC P fl ro N n l E0 ds b F F0 Q D (⟨some d, op, ty, pos, aft, g⟩ :: rest) := by
  subst hop; exact fr_ex (fun vs => ex_ldA q ht hagg (hx vs) hF hv) h
theorem fr_new {t : Nat} {i : TI} {zs : List Value} (hop : op = .alloc t) (ht : tt t = some i) (hz : zlist i.zero = some zs) (h : RC P fl ro N n l E0 ds b F F0 Q (D ++ [.new t zs]) rest) : RC P fl ro N n l E0 ds b F F0 Q D (⟨some d, op, ty, pos, aft, g⟩ :: rest) := by
  subst hop
  refine .step (x := .new t zs) (fun vs _ A w' H hk => eff_ex hk (ex_alloc (tt := tt) ht) ⟨[pt w'.heap.size t zs], ⟨w'.heap.size, rfl, rfl⟩, ?_⟩) h
  have := Blk.new w' t i.zero.cells.toList
  refine H.alloc (Fr.alloc _ _) (cs := zs) ?_ (Nat.le_refl _)
  rw [← zlist_eq hz]
  exact this
theorem fr_call {f : FuncId} {args : List Value} {R : Value → List SP → Prop} (hx : ∀ vs, callOf (envR l E0 D ⟨some d, op, ty, pos, aft, g⟩ vs) op = some (f, args)) [hb : Bodied P f] (hs : ∀ A, SC P f args b (A ++ F) (fun v G => ∃ X, R v X ∧ G = X ++ (A ++ F)))
    (h : RC P fl ro N n l E0 ds b F F0 Q (D ++ [.rel R]) rest) : RC P fl ro N n l E0 ds b F F0 Q D (⟨some d, op, ty, pos, aft, g⟩ :: rest) :=
  .step (x := .rel R) (fun vs _ A w' H hk => eff_call hk (ec_call (hx vs)) ((hs A w' H).mono fun _ _ ⟨v, G, h1, ⟨X, h2, h3⟩, h4⟩ => ⟨v, h1, X, h2, h3 ▸ h4⟩)) h
end
end Go.Eng
