/- The engine, part twenty-six: a drawn region whose first part is unordered (new memory, calls): each operation's fact from the values of those that it names; then the rest in the order of the text. Conditions: as part seven. -/
import Derived.Test.YtdmfcnjgdicncaaGreatP2
import Derived.Deep.Slices
import Derived.Laws.CopyRow
import Derived.Lib.Overlaps
namespace Go.Eng
open Go Go.RowKit

inductive FD where
 | val (v : Value)
 | new (t : Nat) (zs : List Value)
def dirs (o : Oper) : List Nat := (o.after.toList.filter (Region.binds .any ·)).map (·.on)
def okDirs (l : List Oper) (n : Nat) : Bool := (List.range n).all fun i => match l[i]? with | some o => (dirs o).all (ancs l i).contains && (ancs l i).all (Nat.blt · n) | none => false
def vv (D : List FD) (vs : Nat → Value) (j : Nat) : Value := match nth D j with | some (.val v) => v | _ => vs j
def fdF (D : List FD) (j : Nat) (vs : Nat → Value) (w : World) : Prop := match nth D j with
 | some (.val v) => vs j = v
 | some (.new t zs) => ∃ g, vs j = .pointer (some ⟨g, 0, none⟩) ∧ Blk w g t zs
 | none => True
def fdO (D : List FD) (j : Nat) (v : Value) : Option Nat := match nth D j with
 | some (.new _ _) => (match v with | .pointer (some a) => some a.block | _ => none)
 | _ => none
def gv (D : List FD) (gs : Nat → Nat) (j : Nat) : Value := match nth D j with | some (.val v) => v | _ => .pointer (some ⟨gs j, 0, none⟩)
def newF (gs : Nat → Nat) : Nat → List FD → List SP
 | _, [] => []
 | j, .val _ :: D => newF gs (j + 1) D
 | j, .new t zs :: D => pt (gs j) t zs :: newF gs (j + 1) D

section
variable {P : Program} {tt : Nat → Option TI} [TT P tt] {ro : Option Nat} {N n : Nat} {l rest : List Oper} {Q : Exit → Act → World → Prop} {E E0 : List (Nat × Value)} {ds : List Deferred} {b : World} {F F0 : List SP} {fl : Oper → Bool}

def OpOk (P : Program) (ro : Option Nat) (N : Nat) (l : List Oper) (E0 : List (Nat × Value)) (b : World) (F : List SP) (D : List FD) (o : Oper) (x : FD) : Prop :=
 ∀ vs a w', Sat b F w' → Kn N (knOf l E0 (vv D vs) (dirs o)) a → Eff P ro o a w' fun v w'' => Ext w' w'' ∧ match x with | .val u => v = u | .new t zs => ∃ g, v = .pointer (some ⟨g, 0, none⟩) ∧ Blk w'' g t zs ∧ w'.heap.size ≤ g
theorem nth_app {D D' : List FD} {j : Nat} {x : FD} (h : nth D j = some x) : nth (D ++ D') j = some x := by
 rw [nth_eq] at h ⊢
 rw [List.getElem?_append_left (List.getElem?_eq_some_iff.1 h).1]; exact h
theorem knOf_congr {vs vs' : Nat → Value} : ∀ {L : List Nat}, (∀ j ∈ L, vs j = vs' j) → knOf l E0 vs L = knOf l E0 vs' L
 | [], _ => rfl
 | j :: L, h => by simp only [knOf]; rw [h j (by simp), knOf_congr (L := L) fun i hi => h i (by simp [hi])]
theorem sat_news {w : World} {gs : Nat → Nat} (H : Sat b F w) {m : Nat} : ∀ {w' : World}, Ext w w' → ∀ (D : List FD) (j0 : Nat), (∀ j t zs, nth D j = some (.new t zs) → Blk w' (gs (j0 + j)) t zs ∧ w.heap.size ≤ gs (j0 + j)) → (∀ i j t zs t' zs', nth D i = some (.new t zs) → nth D j = some (.new t' zs') → i ≠ j → gs (j0 + i) ≠ gs (j0 + j)) → m = 0 →
  ∃ Hs : Nat → PH, (∀ i, le (Hs i) (ph w')) ∧ (∀ i j, i ≠ j → apt (Hs i) (Hs j)) ∧ (∀ i A, nth (newF gs j0 D) i = some A → A (Hs i)) ∧ ∀ i k, Hs i k ≠ none → ∃ j t zs, nth D j = some (.new t zs) ∧ k = gs (j0 + j) := by
 intro w' hx D
 induction D with
 | nil => intro j0 _ _ _; exact ⟨fun _ _ => none, fun _ _ _ e => (by cases e), fun _ _ _ _ => .inl rfl, fun i A e => (by simp [newF, nth] at e), fun _ _ h => absurd rfl h⟩
 | cons x D ih =>
  intro j0 h1 h2 hm
  have e0 : ∀ j, j0 + (j + 1) = j0 + 1 + j := fun j => by omega
  obtain ⟨Hs, a, b', c, d⟩ := ih (j0 + 1) (fun j t zs h => by have := h1 (j + 1) t zs (by simpa [nth] using h); rwa [e0] at this) (fun i j t zs t' zs' hi hj hij => by
   have := h2 (i + 1) (j + 1) t zs t' zs' (by simpa [nth] using hi) (by simpa [nth] using hj) (by omega); rwa [e0 i, e0 j] at this) hm
  cases x with
  | val v => exact ⟨Hs, a, b', c, fun i k h => by obtain ⟨j, t, zs, q1, q2⟩ := d i k h; exact ⟨j + 1, t, zs, by simpa [nth] using q1, by rw [e0]; exact q2⟩⟩
  | new t zs =>
   have hB := (h1 0 t zs rfl).1
   refine ⟨fun i => match i with | 0 => one (gs j0) (.cells zs.toArray t (0, 0)) | i + 1 => Hs i, fun i => ?_, fun i j hij => ?_, fun i A hA => ?_, fun i k hk => ?_⟩
   ·cases i with
    | zero => exact one_le (h := ph w') hB
    | succ i => exact a i
   ·have key : ∀ i, apt (one (gs j0) (.cells zs.toArray t (0, 0))) (Hs i) := fun i k => by
     by_cases hk : Hs i k = none
     ·exact .inr hk
     ·left
      obtain ⟨j, t', zs', q1, q2⟩ := d i k hk
      have := h2 0 (j + 1) t zs t' zs' rfl (by simpa [nth] using q1) (by omega)
      rw [e0, Nat.add_zero] at this
      simp only [one]; rw [if_neg]; rw [q2]; exact fun e => this e.symm
    cases i with
    | zero => cases j with
     | zero => exact absurd rfl hij
     | succ j => exact key j
    | succ i => cases j with
     | zero => exact (key i).symm
     | succ j => exact b' i j (by omega)
   ·cases i with
    | zero => simp only [newF, nth, Option.some.injEq] at hA; subst hA; exact one_at _ _
    | succ i => exact c i A (by simpa [newF, nth] using hA)
   ·cases i with
    | zero => exact ⟨0, t, zs, rfl, by rw [one_ne hk]; rfl⟩
    | succ i => obtain ⟨j, t', zs', q1, q2⟩ := d i k hk; exact ⟨j + 1, t', zs', by simpa [nth] using q1, by rw [e0]; exact q2⟩
theorem sat_newF {w w' : World} {gs : Nat → Nat} (H : Sat b F w) (hx : Ext w w') (D : List FD) (h1 : ∀ j t zs, nth D j = some (.new t zs) → Blk w' (gs j) t zs ∧ w.heap.size ≤ gs j) (h2 : ∀ i j t zs t' zs', nth D i = some (.new t zs) → nth D j = some (.new t' zs') → i ≠ j → gs i ≠ gs j) :
  Sat b (newF gs 0 D ++ F) w' := by
 obtain ⟨Hs, a, b', c, d⟩ := sat_news (gs := gs) (m := 0) H hx D 0 (by simpa using h1) (by simpa using h2) rfl
 obtain ⟨K, ka, kb, kc⟩ := H.mem
 have hK : ∀ i, le (K i) (ph w') := fun i k o ho => by
  have := ka i k o ho
  exact (hx.keep k (ph_lt this) id).trans this
 have hap : ∀ i j, apt (Hs i) (K j) := fun i j k => by
  by_cases hk : Hs i k = none
  ·exact .inl hk
  ·right
   obtain ⟨q, t, zs, q1, q2⟩ := d i k hk
   have h3 := (h1 q t zs q1).2
   rw [Nat.zero_add] at q2
   cases hj : K j k with
   | none => rfl
   | some o => have := ph_lt (ka j k o hj); omega
 have H' := H.ext hx
 refine ⟨H'.os, H'.tape, H'.output, fun j => if j < (newF gs 0 D).length then Hs j else K (j - (newF gs 0 D).length), fun i => ?_, fun i j hij => ?_, fun i A hA => ?_⟩
 ·dsimp only; split
  ·exact a i
  ·exact hK _
 ·dsimp only; split <;> split
  ·exact b' i j hij
  ·exact hap i _
  ·exact (hap j _).symm
  ·exact kb _ _ (by omega)
 ·rw [nth_append] at hA
  dsimp only; split at hA
  ·rename_i h; rw [if_pos h]; exact c i A hA
  ·rename_i h; rw [if_neg h]; exact kc _ A hA
theorem look_kn {vs : Nat → Value} (hd : ∀ j, j < n → look E0 (dstOf l j) = none ∧ ∀ k, k < n → k ≠ j → dstOf l k ≠ dstOf l j) : ∀ {M : List Nat}, (∀ j ∈ M, j < n) → (∀ j ∈ M, look (knOf l E0 vs M) (dstOf l j) = some (vs j)) ∧ ∀ i v, look E0 i = some v → look (knOf l E0 vs M) i = some v
 | [], _ => ⟨fun _ h => by simp at h, fun _ _ h => h⟩
 | j :: M, hM => by
  obtain ⟨i1, i2⟩ := look_kn (vs := vs) hd (M := M) fun k hk => hM k (by simp [hk])
  have hj := hM j (by simp)
  refine ⟨fun k hk => ?_, fun i v hv => ?_⟩
  ·simp only [knOf, look]
   by_cases he : dstOf l j = dstOf l k
   ·have hkj : k = j := by
     by_cases h : k = j
     ·exact h
     ·exact absurd he.symm ((hd j hj).2 k (hM k hk) h)
    subst hkj
    simp
   ·have hk' : k ∈ M := by
     rcases List.mem_cons.1 hk with rfl | h
     ·exact absurd rfl he
     ·exact h
    have hb : Nat.beq (dstOf l j) (dstOf l k) = false := by
     cases h : Nat.beq (dstOf l j) (dstOf l k) with
     | true => exact absurd (Nat.eq_of_beq_eq_true h) he
     | false => rfl
    rw [hb]; exact i1 k hk'
  ·simp only [knOf, look]
   have hne : dstOf l j ≠ i := fun h => by rw [← h, (hd j hj).1] at hv; cases hv
   have hb : Nat.beq (dstOf l j) i = false := by
    cases h : Nat.beq (dstOf l j) i with
    | true => exact absurd (Nat.eq_of_beq_eq_true h) hne
    | false => rfl
   rw [hb]; exact i2 i v hv
theorem look_inv {vs : Nat → Value} : ∀ {L : List Nat} {i : Nat} {v : Value}, look (knOf l E0 vs L) i = some v → (∃ j ∈ L, dstOf l j = i ∧ vs j = v) ∨ look E0 i = some v
 | [], _, _, h => .inr h
 | j :: L, i, v, h => by
  simp only [knOf, look] at h
  split at h
  ·rename_i hb
   cases h
   exact .inl ⟨j, by simp, Nat.eq_of_beq_eq_true hb, rfl⟩
  ·rcases look_inv h with ⟨k, h1, h2⟩ | h1
   ·exact .inl ⟨k, by simp [h1], h2⟩
   ·exact .inr h1
variable {D : List FD} {d : Nat} {op : Op} {ty : TypeId} {pos : String} {aft : Array Edge} {g : Option (Nat × Bool)} {v : Value}
abbrev env (l : List Oper) (E0 : List (Nat × Value)) (D : List FD) (o : Oper) (vs : Nat → Value) : List (Nat × Value) := knOf l E0 (vv D vs) (dirs o)
theorem SC.pure {f : FuncId} {args : List Value} {w : World} (h : SC P f args w [Is w] (fun u F' => u = v ∧ F' = [Is w])) : Calls P f args.toArray w fun e w' => e = .returned v ∧ Ext w w' :=
 (h w (Sat.start w)).mono fun _ _ ⟨_, _, h1, ⟨h2, h3⟩, h4⟩ => by subst h2; subst h3; exact ⟨h1, h4.is (k := 0) rfl⟩
end
end Go.Eng
namespace Go.Eng
open Go Go.RowKit

section
variable {P : Program} {ro : Option Nat} {l : List Oper} {Q : Exit → Act → World → Prop} {N : Nat} {ds : List Deferred} {E0 : List (Nat × Value)} {fl : Oper → Bool}

def okExtC (fl : Oper → Bool) (n N : Nat) (C : List Nat) (E0 : List (Nat × Value)) (l : List Oper) : Bool :=
 okBack l && (((List.range n).all fun i => match l[i]? with
  | none => false
  | some o => o.guard.isNone && match o.dst with
   | none => false
   | some d => Nat.blt d N && (look E0 d).isNone && (List.range n).all fun j => Nat.beq j i || !Nat.beq (dstOf l j) d) &&
 ((List.range l.length).all fun i => match l[i]? with
  | none => true
  | some o => (Nat.blt i n && !C.contains i) || (List.range i).all fun j => match l[j]? with
    | none => true
    | some p => (ancs l i).contains j || ((Nat.ble n j || C.contains j) && (p.apart l.toArray o && o.apart l.toArray p && (fl o || fl p))) || (Nat.blt i n && !C.contains j)) &&
 (C.all fun c => Nat.blt c n && (match l[c]? with | some o => fl o | none => false)))
theorem okExtC_op {n : Nat} {C : List Nat} (h : okExtC fl n N C E0 l = true) {i : Nat} (hi : i < n) : ∃ o d, l[i]? = some o ∧ o.guard = none ∧ o.dst = some d ∧ d < N ∧ look E0 d = none ∧ ∀ j, j < n → j ≠ i → dstOf l j ≠ d := by
 simp only [okExtC, Bool.and_eq_true] at h
 have := List.all_eq_true.1 h.2.1.1 i (List.mem_range.2 hi)
 split at this
 ·cases this
 ·rename_i o ho
  simp only [Bool.and_eq_true] at this
  obtain ⟨h1, h2⟩ := this
  split at h2
  ·cases h2
  ·rename_i d hd
   simp only [Bool.and_eq_true] at h2
   refine ⟨o, d, ho, by simpa using h1, hd, Nat.le_of_ble_eq_true h2.1.1, by simpa using h2.1.2, fun j hj hji hjd => ?_⟩
   have := List.all_eq_true.1 h2.2 j (List.mem_range.2 hj)
   simp only [Bool.or_eq_true, Bool.not_eq_true'] at this
   rcases this with h3 | h3
   ·exact hji (Nat.eq_of_beq_eq_true h3)
   ·rw [hjd, Nat.beq_refl] at h3; cases h3
theorem okExtC_pair {n : Nat} {C : List Nat} (h : okExtC fl n N C E0 l = true) (i j : Nat) (o p : Oper) (ho : l[i]? = some o) (hp : l[j]? = some p) (hin : n ≤ i ∨ i ∈ C) (hji : j < i) :
  j ∈ ancs l i ∨ ((n ≤ j ∨ j ∈ C) ∧ Apart l p o ∧ (fl o = true ∨ fl p = true)) ∨ (i < n ∧ j ∉ C) := by
 simp only [okExtC, Bool.and_eq_true] at h
 have hlt : i < l.length := (List.getElem?_eq_some_iff.1 ho).1
 have := List.all_eq_true.1 h.2.1.2 i (List.mem_range.2 hlt)
 simp only [ho, Bool.or_eq_true, Bool.and_eq_true, Bool.not_eq_true'] at this
 rcases this with ⟨h1, h2⟩ | h1
 ·have := Nat.le_of_ble_eq_true h1
  rcases hin with h | h
  ·omega
  ·rw [List.contains_iff_mem.2 h] at h2; cases h2
 ·have := List.all_eq_true.1 h1 j (List.mem_range.2 hji)
  simp only [hp, Bool.or_eq_true, Bool.and_eq_true, Bool.not_eq_true'] at this
  rcases this with (h1 | ⟨h0, ⟨h1, h2⟩, h3⟩) | ⟨h4, h5⟩
  ·exact .inl (List.contains_iff_mem.1 h1)
  ·exact .inr (.inl ⟨h0.imp Nat.le_of_ble_eq_true List.contains_iff_mem.1, ⟨h1, h2⟩, h3⟩)
  ·exact .inr (.inr ⟨Nat.le_of_ble_eq_true h4, fun hc => by rw [List.contains_iff_mem.2 hc] at h5; cases h5⟩)
theorem okExtC_c {n : Nat} {C : List Nat} (h : okExtC fl n N C E0 l = true) {c : Nat} (hc : c ∈ C) : c < n ∧ (∀ o, l[c]? = some o → fl o = true) := by
 simp only [okExtC, Bool.and_eq_true] at h
 have := List.all_eq_true.1 h.2.2 c hc
 simp only [Bool.and_eq_true] at this
 obtain ⟨h1, h2⟩ := this
 exact ⟨Nat.le_of_ble_eq_true h1, fun o ho => by rw [ho] at h2; exact h2⟩

theorem tx_pend {w0 : World} {n : Nat} {C : List Nat} (hok : okExtC fl n N C E0 l = true) (hback : ∀ i, ∀ j ∈ ancs l i, i < l.length → j < i) (hnl : n ≤ l.length) {S2 : World → Prop} (φ : Nat → (Nat → Value) → World → Prop) (own : Nat → Value → Option Nat)
  (hst : ∀ j vs w w', φ j vs w → Ext w w' → φ j vs w') (hloc : ∀ j vs vs' w, φ j vs w → (∀ k, k = j ∨ k ∈ ancs l j → vs k = vs' k) → φ j vs' w)
  (hC : ∀ c o, c ∈ C → l[c]? = some o → ∀ vs a w', Ext w0 w' → Kn N (knOf l E0 vs (ancs l c)) a → (∀ j ∈ ancs l c, φ j vs w') → ∃ v, (∀ W, (execOp a.eval o).run P W = .ok (.value v) W) ∧ φ c (upv vs c v) w' ∧ own c v = none) {w : World}
  (hend : ∀ vs a, ExtSt w0 N n l E0 ds φ own (fun _ => True) vs a w → Tx P fl ro l S2 Q (List.range' n (l.length - n)) a w) :
  ∀ (U : List Nat) (L : Nat → Prop) (vs : Nat → Value) (a : Act), (∀ c ∈ U, c ∈ C ∧ ¬ L c) → U.Pairwise (· < ·) → (∀ j, j < n → L j ∨ j ∈ U) → (∀ j, j < n → L j → ∀ k ∈ ancs l j, L k) → ExtSt w0 N n l E0 ds φ own L vs a w → Tx P fl ro l S2 Q (U ++ List.range' n (l.length - n)) a w
 | [], L, vs, a, _, _, hall, _, h => hend vs a ⟨h.ext, h.kn, h.dfs, fun i hi _ => h.slot i hi ((hall i hi).resolve_right (by simp)), fun i hi _ => h.fact i hi ((hall i hi).resolve_right (by simp)), fun i hi _ => h.low i hi ((hall i hi).resolve_right (by simp)), fun i j hi hj _ _ => h.apart i j hi hj ((hall i hi).resolve_right (by simp)) ((hall j hj).resolve_right (by simp))⟩
 | c :: U, L, vs, a, hU, hnd, hall, hcl, h => by
  obtain ⟨hcC, hcL⟩ := hU c (by simp)
  obtain ⟨hcn, hcf⟩ := okExtC_c hok hcC
  obtain ⟨o, d, ho, hg, hd, hdN, hE0, hne⟩ := okExtC_op hok hcn
  have hndc := List.pairwise_cons.1 hnd
  have hanc : ∀ j ∈ ancs l c, j < n ∧ L j := fun j hj => by
   have hjn : j < n := by have := hback c j hj (by omega); omega
   refine ⟨hjn, (hall j hjn).resolve_right fun hm => ?_⟩
   have hjc := hback c j hj (by omega)
   rcases List.mem_cons.1 hm with rfl | hm
   ·omega
   ·have := hndc.1 j hm; omega
  obtain ⟨v, h1, h2, h3⟩ := hC c o hcC ho vs a w h.ext (h.kn_of _ hanc) (fun j hj => h.fact j (hanc j hj).1 (hanc j hj).2)
  have hwant : Region.wanted o (yielded l.toArray a.tmps) = true := by simp [Region.wanted, hg]
  refine ⟨o, ho, fun _ => .inl ⟨hcf o ho, v, fun W _ => h1 W, ?_⟩, fun hc => by rw [hwant] at hc; cases hc⟩
  rw [hd]
  have hs := h.step (L' := fun j => j = c ∨ L j) hcn ho hd hdN hE0 hne hcL (fun j _ hj => hj) (fun j hj hLj hia => hcL (hcl j hj hLj c hia)) hst hloc (Fr.refl _ _) h2 (fun g hgo => by rw [h3] at hgo; cases hgo)
  exact tx_pend hok hback hnl φ own hst hloc hC hend U _ _ _ (fun k hk => ⟨(hU k (by simp [hk])).1, fun hk' => by
    rcases hk' with rfl | hk'
    ·exact Nat.lt_irrefl _ (hndc.1 _ hk)
    ·exact (hU k (by simp [hk])).2 hk'⟩) hndc.2 (fun j hj => by
    rcases hall j hj with h | h
    ·exact .inl (.inr h)
    ·rcases List.mem_cons.1 h with rfl | h
     ·exact .inl (.inl rfl)
     ·exact .inr h) (fun j hj hLj k hk => by
    rcases hLj with rfl | hLj
    ·exact .inr (hanc k hk).2
    ·exact .inr (hcl j hj hLj k hk)) hs

theorem region_extC {n : Nat} {C : List Nat} (hn : n ≤ l.length) (hok : okExtC fl n N C E0 l = true) (hCs : C.Pairwise (· < ·)) (hm : P.follows .mixedOrders = true) {S2 : World → Prop} {id : Nat} {a : Act} {w : World} (hk : Kn N E0 a) (hds : a.defers = ds)
  (φ : Nat → (Nat → Value) → World → Prop) (own : Nat → Value → Option Nat)
  (hst : ∀ j vs w w', φ j vs w → Ext w w' → φ j vs w') (hloc : ∀ j vs vs' w, φ j vs w → (∀ k, k = j ∨ k ∈ ancs l j → vs k = vs' k) → φ j vs' w)
  (hop : ∀ i o, i < n → l[i]? = some o → ∀ vs a w', Ext w w' → Kn N (knOf l E0 vs (ancs l i)) a → (∀ j ∈ ancs l i, φ j vs w') →
   Eff P ro o a w' fun v w'' => Ext w' w'' ∧ φ i (upv vs i v) w'' ∧ ∀ g, own i v = some g → w'.heap.size ≤ g ∧ g < w''.heap.size)
  (hC : ∀ c o, c ∈ C → l[c]? = some o → ∀ vs a w', Ext w w' → Kn N (knOf l E0 vs (ancs l c)) a → (∀ j ∈ ancs l c, φ j vs w') → ∃ v, (∀ W, (execOp a.eval o).run P W = .ok (.value v) W) ∧ φ c (upv vs c v) w' ∧ own c v = none)
  (hS : ∀ vs a w', ExtSt w N n l E0 ds φ own (fun j => j ∉ C) vs a w' → S2 w')
  (hend : ∀ vs a w', ExtSt w N n l E0 ds φ own (fun _ => True) vs a w' → Tx P fl ro l S2 Q (List.range' n (l.length - n)) a w') :
  (Code.region id l.toArray true).wpIn (FR ro) 0 P Q a w := by
 have hb : okBack l = true := by simp only [okExtC, Bool.and_eq_true] at hok; exact hok.1
 have hns := okBack_ns hb
 have hback : ∀ i, ∀ j ∈ ancs l i, i < l.length → j < i := by
  intro i j hj hi
  cases hlt : decide (j < i) with
  | true => exact of_decide_eq_true hlt
  | false =>
   exfalso
   have hge : i ≤ j := by have := of_decide_eq_false hlt; omega
   let lst : Array Bool := ((List.range l.length).map fun k => decide (k < i)).toArray
   have hget : ∀ k, lst.getD k false = true ↔ k < l.length ∧ k < i := by
    intro k
    simp only [lst, Array.getD_eq_getD_getElem?, List.getElem?_toArray, List.getElem?_map]
    by_cases hk : k < l.length
    ·simp [List.getElem?_range hk, hk]
    ·simp [List.getElem?_eq_none (l := List.range l.length) (by simpa using hk), hk]
   have hcl : Closed l lst := by
    intro k o hk ho e he hbd
    have := okBack_back hb k o ho e he hbd
    have h2 := (hget k).1 hk
    exact (hget _).2 ⟨by omega, by omega⟩
   have := ancT_sound hcl l [] [] rfl rfl (fun i o h => by simp at h) i l[i] (List.getElem?_eq_getElem hi) (fun e he hbd => (hget _).2 (by
    have := okBack_back hb i l[i] (List.getElem?_eq_getElem hi) e he hbd; omega)) j hj
   have := (hget j).1 this
   omega
 have hCn : ∀ c ∈ C, c < n := fun c hc => (okExtC_c hok hc).1
 have pw2 : (C ++ List.range' n (l.length - n)).Pairwise (· < ·) := List.pairwise_append.2 ⟨hCs, List.pairwise_lt_range' (s := n) (n := l.length - n), fun x hx y hy => by
  have := hCn x hx
  rw [List.mem_range'_1] at hy; omega⟩
 have nd2 : (C ++ List.range' n (l.length - n)).Nodup := pw2.imp fun h => Nat.ne_of_lt h
 have hmemR : ∀ i, i < l.length → (n ≤ i ∨ i ∈ C) → i ∈ C ++ List.range' n (l.length - n) := fun i hi h => by
  rw [List.mem_append, List.mem_range'_1]
  rcases h with h | h
  ·exact .inr ⟨h, by omega⟩
  ·exact .inl h
 let I : Array Bool → Act → World → Prop := fun listed a w' =>
  ((∀ i, n ≤ i → i < l.length → listed.getD i false = false) ∧ ∃ vs, ExtSt w N n l E0 ds φ own (fun i => listed.getD i false = true) vs a w') ∨
  ((∀ j, j < n → j ∉ C → listed.getD j false = true) ∧ S2 w' ∧ Tx P fl ro l S2 Q (rest (C ++ List.range' n (l.length - n)) listed) a w')
 have conv : ∀ (listed : Array Bool) (a : Act) (w' : World), listed.size = l.length → Closed l listed → I listed a w' → (∃ j, j < n ∧ j ∉ C ∧ listed.getD j false = false ∧ (∀ i, n ≤ i → i < l.length → listed.getD i false = false) ∧ ∃ vs, ExtSt w N n l E0 ds φ own (fun i => listed.getD i false = true) vs a w') ∨
   ((∀ j, j < n → j ∉ C → listed.getD j false = true) ∧ S2 w' ∧ Tx P fl ro l S2 Q (rest (C ++ List.range' n (l.length - n)) listed) a w') := by
  rintro listed a w' hsz hclo (⟨h1, vs, h2⟩ | h)
  ·by_cases hall : ∀ j, j < n → j ∉ C → listed.getD j false = true
   ·right
    refine ⟨hall, hS vs a w' ⟨h2.ext, h2.kn, h2.dfs, fun i hi hc => h2.slot i hi (hall i hi hc), fun i hi hc => h2.fact i hi (hall i hi hc), fun i hi hc => h2.low i hi (hall i hi hc), fun i j hi hj hc hc' => h2.apart i j hi hj (hall i hi hc) (hall j hj hc')⟩, ?_⟩
    have e1 : rest (C ++ List.range' n (l.length - n)) listed = (C.filter fun i => !listed.getD i true) ++ List.range' n (l.length - n) := by
     unfold rest
     rw [List.filter_append]
     congr 1
     rw [List.filter_eq_self]
     intro i hi
     rw [List.mem_range'_1] at hi
     have := h1 i hi.1 (by omega)
     rw [← getD_both (by omega)] at this
     simp [this]
    rw [e1]
    refine tx_pend hok hback hn φ own hst hloc hC (fun vs a h => hend vs a w' h) (C.filter fun i => !listed.getD i true) (fun i => listed.getD i false = true) vs a (fun c hc => ?_) (hCs.filter _) (fun j hj => ?_) (fun j hj hLj k hk => ?_) h2
    ·obtain ⟨hc1, hc2⟩ := List.mem_filter.1 hc
     refine ⟨hc1, fun h => ?_⟩
     have := hCn c hc1
     rw [← getD_both (by omega)] at h
     rw [h] at hc2; simp at hc2
    ·by_cases hjl : listed.getD j false = true
     ·exact .inl hjl
     ·by_cases hjc : j ∈ C
      ·right
       refine List.mem_filter.2 ⟨hjc, ?_⟩
       rw [getD_both (by omega)]
       simpa using hjl
      ·exact absurd (hall j hj hjc) hjl
    ·have hjl : j < l.length := by omega
     exact ancT_sound hclo l [] [] rfl rfl (fun i o h => by simp at h) j l[j] (List.getElem?_eq_getElem hjl) (fun e he hbd => hclo j l[j] hLj (List.getElem?_eq_getElem hjl) e he hbd) k hk
   ·left
    obtain ⟨j, hj⟩ := Classical.not_forall.1 hall
    obtain ⟨hj1, hj2⟩ := Classical.not_imp.1 hj
    obtain ⟨hj2, hj3⟩ := Classical.not_imp.1 hj2
    exact ⟨j, hj1, hj2, by simpa using hj3, h1, vs, h2⟩
  ·exact .inr h
 refine region_inv hb hm I ?_ ?_ ?_
 ·left
  have hfa : ∀ i, ¬ ((Array.replicate l.length false).getD i false = true) := by
   intro i h
   rw [Array.getD_eq_getD_getElem?, Array.getElem?_replicate] at h
   split at h <;> cases h
  exact ⟨fun i _ hi => by simp [hi], fun _ => undef, Fr.drew _, hk, hds, fun i _ h => absurd h (hfa i), fun i _ h => absurd h (hfa i), fun i _ h => absurd h (hfa i), fun i j _ _ h => absurd h (hfa i)⟩
 ·intro listed a w' i o hsz hcl hI ho hf hdeps
  have hlt : i < l.length := (List.getElem?_eq_some_iff.1 ho).1
  have hancl : ∀ r ∈ ancs l i, listed.getD r false = true := fun r hr => ancT_sound hcl l [] [] rfl rfl (fun i o h => by simp at h) i o ho hdeps r hr
  rcases conv listed a w' hsz hcl hI with ⟨j0, hj0, hj0C, hun0, h1, vs, h2⟩ | ⟨h1, h2, h3⟩
  ·have hin : i < n := by
    rcases Nat.lt_or_ge i n with h | h
    ·exact h
    ·rcases okExtC_pair hok i j0 o l[j0] ho (List.getElem?_eq_getElem (by omega)) (.inl h) (by omega) with hm | ⟨hm, _⟩ | ⟨hm, _⟩
     ·rw [hancl j0 hm] at hun0; cases hun0
     ·rcases hm with hm | hm
      ·omega
      ·exact absurd hm hj0C
     ·omega
   obtain ⟨o', d, ho', hg, hd, hdN, hE0, hne⟩ := okExtC_op hok hin
   rw [ho] at ho'; cases ho'
   have hwant : Region.wanted o (yielded l.toArray a.tmps) = true := by simp [Region.wanted, hg]
   have hancn : ∀ j ∈ ancs l i, j < n ∧ listed.getD j false = true := fun j hj => ⟨by have := hback i j hj hlt; omega, hancl j hj⟩
   refine ⟨fun _ => ?_, fun hc => by rw [hwant] at hc; cases hc⟩
   refine (hop i o hin ho vs a w' h2.ext (h2.kn_of _ hancn) (fun j hj => h2.fact j (hancn j hj).1 (hancn j hj).2)).mono ?_
   rintro v w'' ⟨he, hfi, hown⟩
   left
   refine ⟨fun k hk hkl => by rw [getD_set_ne false (by omega)]; exact h1 k hk hkl, upv vs i v, ?_⟩
   rw [hd]
   refine h2.step hin ho hd hdN hE0 hne (by simp [hf]) (fun j hj hLj => ?_) (fun j hj hLj hia => ?_) hst hloc he hfi hown
   ·by_cases hji : j = i
    ·exact .inl hji
    ·right
     rwa [getD_set_ne false (fun e => hji e.symm)] at hLj
   ·have hjl : j < l.length := by omega
    have := ancT_sound hcl l [] [] rfl rfl (fun i o h => by simp at h) j l[j] (List.getElem?_eq_getElem hjl) (fun e he hbd => hcl j l[j] hLj (List.getElem?_eq_getElem hjl) e he hbd) i hia
    rw [hf] at this; cases this
  ·have hin : n ≤ i ∨ i ∈ C := by
    rcases Nat.lt_or_ge i n with h | h
    ·by_cases hc : i ∈ C
     ·exact .inr hc
     ·rw [h1 i h hc] at hf; cases hf
    ·exact .inl h
   have hft : listed.getD i true = false := by rw [getD_both (by omega)]; exact hf
   obtain ⟨g1, g2⟩ := step_of_Tx (fl := fl) hns nd2 pw2 (hmemR i hlt hin) ho (by omega) hft (fun r hr hu hrR p hp => by
    have hrl : r < l.length := (List.getElem?_eq_some_iff.1 hp).1
    rcases okExtC_pair hok i r o p ho hp hin hr with hm | ⟨_, hm⟩ | ⟨hm, hm2⟩
    ·rw [getD_both (by omega), hancl r hm] at hu; cases hu
    ·exact hm
    ·rw [List.mem_append, List.mem_range'_1] at hrR
     rcases hrR with h | h
     ·exact absurd h hm2
     ·omega) h2 h3
   have keep : ∀ j, j < n → j ∉ C → (listed.setIfInBounds i true).getD j false = true := fun j hj hjc => by
    have hji : j ≠ i := by
     rintro rfl
     rcases hin with h | h
     ·omega
     ·exact hjc h
    rw [getD_set_ne false (Ne.symm hji)]; exact h1 j hj hjc
   exact ⟨fun hw => (g1 hw).mono fun v w' ⟨hS', ht⟩ => .inr ⟨keep, hS', ht⟩, fun hw => .inr ⟨keep, h2, g2 hw⟩⟩
 ·intro listed a w' hsz hI hall
  have hcl : Closed l listed := fun k o _ ho e he hbd => hall _ (by have := okBack_back hb k o ho e he hbd; have := (List.getElem?_eq_some_iff.1 ho).1; omega)
  rcases conv listed a w' hsz hcl hI with ⟨j0, hj0, _, hun0, _⟩ | ⟨h1, h2, h3⟩
  ·have := hall j0 (by omega)
   rw [hun0] at this
   cases this
  ·have : rest (C ++ List.range' n (l.length - n)) listed = [] := by
    unfold rest
    rw [List.filter_eq_nil_iff]
    intro k hk
    have hkl : k < l.length := by
     rw [List.mem_append, List.mem_range'_1] at hk
     rcases hk with h | h
     ·have := hCn k h; omega
     ·omega
    rw [getD_both (by omega), hall k hkl]
    simp
   rw [this] at h3
   exact h3

end
end Go.Eng
namespace Go.Eng
open Go Go.RowKit

section
variable {P : Program} {tt : Nat → Option TI} [TT P tt] {ro : Option Nat} {N n : Nat} {C : List Nat} {l rest : List Oper} {Q : Exit → Act → World → Prop} {E E0 : List (Nat × Value)} {ds : List Deferred} {b : World} {F F0 : List SP} {fl : Oper → Bool}

def PurOk (P : Program) (N : Nat) (l : List Oper) (E0 : List (Nat × Value)) (D : List FD) (o : Oper) (v : Value) : Prop := ∀ vs a, Kn N (knOf l E0 (vv D vs) (dirs o)) a → ∀ W, (execOp a.eval o).run P W = .ok (.value v) W
inductive FC (P : Program) (fl : Oper → Bool) (ro : Option Nat) (N n : Nat) (C : List Nat) (l : List Oper) (E0 : List (Nat × Value)) (ds : List Deferred) (b : World) (F F0 : List SP) (Q : Exit → Act → World → Prop) : List FD → List Oper → Prop
 | done {D : List FD} {rest : List Oper} (h0 : Nat.beq D.length n = true) (h : ∀ gs, Ent (newF gs 0 D ++ F) F0 ∧ SD P fl ro N F0 l n rest Q (knOf l E0 (gv D gs) (List.range n)) ds b (newF gs 0 D ++ F)) : FC P fl ro N n C l E0 ds b F F0 Q D rest
 | step {D : List FD} {rest : List Oper} {o : Oper} {x : FD} (hc : C.contains D.length = false) (h1 : OpOk P ro N l E0 b F D o x) (h : FC P fl ro N n C l E0 ds b F F0 Q (D ++ [x]) rest) : FC P fl ro N n C l E0 ds b F F0 Q D (o :: rest)
 | pstep {D : List FD} {rest : List Oper} {o : Oper} {v : Value} (h1 : PurOk P N l E0 D o v) (h : FC P fl ro N n C l E0 ds b F F0 Q (D ++ [.val v]) rest) : FC P fl ro N n C l E0 ds b F F0 Q D (o :: rest)
theorem PurOk.op {D : List FD} {o : Oper} {v : Value} (h : PurOk P N l E0 D o v) : OpOk P ro N l E0 b F D o (.val v) := fun vs a w' _ hk => by
 unfold Eff
 rw [h vs a hk w']
 exact ⟨Fr.refl _ _, rfl⟩
theorem FC.facts {D : List FD} {rest : List Oper} (h : FC P fl ro N n C l E0 ds b F F0 Q D rest) : rest = l.drop D.length → ∃ D', (∀ j x, nth D j = some x → nth D' j = some x) ∧ D'.length = n ∧
  (∀ i o x, D.length ≤ i → l[i]? = some o → nth D' i = some x → ∃ D0, (∀ j x, nth D0 j = some x → nth D' j = some x) ∧ OpOk P ro N l E0 b F D0 o x ∧ (i ∈ C → ∃ v, x = .val v ∧ PurOk P N l E0 D0 o v)) ∧
  ∀ gs, Ent (newF gs 0 D' ++ F) F0 ∧ SD P fl ro N F0 l n (l.drop n) Q (knOf l E0 (gv D' gs) (List.range n)) ds b (newF gs 0 D' ++ F) := by
 have hstep : ∀ {D : List FD} {rest : List Oper} {o : Oper} {x : FD}, OpOk P ro N l E0 b F D o x → (D.length ∈ C → ∃ v, x = .val v ∧ PurOk P N l E0 D o v) →
   (rest = l.drop (D ++ [x]).length → ∃ D', (∀ j y, nth (D ++ [x]) j = some y → nth D' j = some y) ∧ D'.length = n ∧
    (∀ i o x', (D ++ [x]).length ≤ i → l[i]? = some o → nth D' i = some x' → ∃ D0, (∀ j x, nth D0 j = some x → nth D' j = some x) ∧ OpOk P ro N l E0 b F D0 o x' ∧ (i ∈ C → ∃ v, x' = .val v ∧ PurOk P N l E0 D0 o v)) ∧
    ∀ gs, Ent (newF gs 0 D' ++ F) F0 ∧ SD P fl ro N F0 l n (l.drop n) Q (knOf l E0 (gv D' gs) (List.range n)) ds b (newF gs 0 D' ++ F)) →
   o :: rest = l.drop D.length → ∃ D', (∀ j y, nth D j = some y → nth D' j = some y) ∧ D'.length = n ∧
    (∀ i o x', D.length ≤ i → l[i]? = some o → nth D' i = some x' → ∃ D0, (∀ j x, nth D0 j = some x → nth D' j = some x) ∧ OpOk P ro N l E0 b F D0 o x' ∧ (i ∈ C → ∃ v, x' = .val v ∧ PurOk P N l E0 D0 o v)) ∧
    ∀ gs, Ent (newF gs 0 D' ++ F) F0 ∧ SD P fl ro N F0 l n (l.drop n) Q (knOf l E0 (gv D' gs) (List.range n)) ds b (newF gs 0 D' ++ F) := by
  intro D rest o x h1 hp ih hr
  have hlen : (D ++ [x]).length = D.length + 1 := by simp
  have hr' : rest = l.drop (D ++ [x]).length := by
   rw [hlen]
   have := congrArg List.tail hr
   simpa [List.tail_drop] using this
  obtain ⟨D', k1, k2, k3, k4⟩ := ih hr'
  refine ⟨D', fun j y hy => k1 j y (nth_app hy), k2, fun i o' y hi ho hy => ?_, k4⟩
  by_cases he : i = D.length
  ·subst he
   have : l[D.length]? = some o := by
    have := congrArg (fun z => z[0]?) hr
    simpa using this.symm
   rw [this] at ho; cases ho
   have hx : nth D' D.length = some x := k1 _ _ (by rw [nth_eq]; simp)
   rw [hx] at hy; cases hy
   exact ⟨D, fun j y hy => k1 j y (nth_app hy), h1, hp⟩
  ·exact k3 i o' y (by rw [hlen]; omega) ho hy
 induction h with
 | @done D rest h0 h =>
  intro hr
  have h0 := Nat.eq_of_beq_eq_true h0
  refine ⟨D, fun _ _ h => h, h0, fun i o x hi ho hx => ?_, by rw [← h0, ← hr]; rw [h0]; exact h⟩
  rw [nth_eq] at hx
  have := (List.getElem?_eq_some_iff.1 hx).1; omega
 | @step D rest o x hc h1 h ih => exact hstep h1 (fun hm => by rw [List.contains_iff_mem.2 hm] at hc; cases hc) ih
 | @pstep D rest o v h1 h ih => exact hstep h1.op (fun _ => ⟨v, rfl, h1⟩) ih

theorem sw_freeC (n : Nat) (C : List Nat) (F0 : List SP) [hm : Mixed P] {id : Nat} (E0 : List (Nat × Value)) (hsub : Sub E0 E) (hn : Nat.ble n l.length = true) (hok : okExtC fl n N C E0 l = true) (hdir : okDirs l n = true) (hCs : C.Pairwise (· < ·)) (h : FC P fl ro N n C l E0 ds b F F0 Q [] l) :
  SW P ro N (.region id l.toArray true) Q E ds b F := by
 constructor
 intro w H a hka hda
 obtain ⟨D, _, hlen, hf, hend⟩ := h.facts rfl
 have hds : ∀ j, j < n → look E0 (dstOf l j) = none ∧ ∀ k, k < n → k ≠ j → dstOf l k ≠ dstOf l j := fun j hj => by
  obtain ⟨o, d, h1, _, h2, _, h3, h4⟩ := okExtC_op hok hj
  have : dstOf l j = d := by simp [dstOf, h1, h2]
  rw [this]; exact ⟨h3, h4⟩
 have hx : ∀ i, i < n → ∃ x, nth D i = some x := fun i hi => ⟨D[i]'(by omega), by rw [nth_eq]; exact List.getElem?_eq_getElem _⟩
 have hkn : ∀ i o, i < n → l[i]? = some o → ∀ (D0 : List FD), (∀ j x, nth D0 j = some x → nth D j = some x) → ∀ vs a (w' : World), Kn N (knOf l E0 vs (ancs l i)) a → (∀ j ∈ ancs l i, fdF D j vs w') → Kn N (knOf l E0 (vv D0 vs) (dirs o)) a := by
  intro i o hi ho D0 hD0 vs a w' hk hφ
  have hdi := List.all_eq_true.1 hdir i (List.mem_range.2 hi)
  simp only [ho, Bool.and_eq_true] at hdi
  have hsubs : ∀ j ∈ dirs o, j ∈ ancs l i := fun j hj => List.contains_iff_mem.1 (List.all_eq_true.1 hdi.1 j hj)
  have hltn : ∀ j ∈ ancs l i, j < n := fun j hj => Nat.le_of_ble_eq_true (List.all_eq_true.1 hdi.2 j hj)
  have hk0 : Kn N (knOf l E0 vs (dirs o)) a := ⟨hk.1, fun k v hkv => hk.2 k v (by
   rcases look_inv hkv with ⟨j, h1, rfl, rfl⟩ | h1
   ·exact (look_kn hds hltn).1 j (hsubs j h1)
   ·exact (look_kn hds hltn).2 k v h1)⟩
  have hvv : knOf l E0 vs (dirs o) = knOf l E0 (vv D0 vs) (dirs o) := knOf_congr fun j hj => by
   have hφj := hφ j (hsubs j hj)
   cases hd0 : nth D0 j with
   | none => simp [vv, hd0]
   | some y =>
    have := hD0 j y hd0
    cases y with
    | val u => simp only [fdF, this] at hφj; simp [vv, hd0, hφj]
    | new t zs => simp [vv, hd0]
  rw [hvv] at hk0
  exact hk0
 have hCn : ∀ j, (∃ t zs, nth D j = some (.new t zs)) → j < n ∧ j ∉ C := fun j ⟨t, zs, hj⟩ => by
  have hjn : j < n := by rw [nth_eq] at hj; have := (List.getElem?_eq_some_iff.1 hj).1; omega
  refine ⟨hjn, fun hc => ?_⟩
  obtain ⟨o, d, ho, _⟩ := okExtC_op hok hjn
  obtain ⟨_, _, _, hp⟩ := hf j o _ (Nat.zero_le _) ho hj
  obtain ⟨v, hv, _⟩ := hp hc
  cases hv
 have hnews : ∀ {L : Nat → Prop} (vs : Nat → Value) (a' : Act) (w' : World), (∀ j, j ∉ C → L j) → ExtSt w N n l E0 ds (fdF D) (fdO D) L vs a' w' → Ext w w' →
   (∀ j t zs, nth D j = some (.new t zs) → vs j = .pointer (some ⟨(match vs j with | .pointer (some a) => a.block | _ => 0), 0, none⟩)) ∧ Sat b (newF (fun j => match vs j with | .pointer (some a) => a.block | _ => 0) 0 D ++ F) w' := by
  intro L vs a' w' hL hst hE
  have hnew : ∀ j t zs, nth D j = some (.new t zs) → j < n ∧ L j ∧ vs j = .pointer (some ⟨(match vs j with | .pointer (some a) => a.block | _ => 0), 0, none⟩) ∧ Blk w' (match vs j with | .pointer (some a) => a.block | _ => 0) t zs ∧ fdO D j (vs j) = some (match vs j with | .pointer (some a) => a.block | _ => 0) := fun j t zs hj => by
   obtain ⟨hjn, hjC⟩ := hCn j ⟨t, zs, hj⟩
   have h1 := hst.fact j hjn (hL j hjC)
   simp only [fdF, hj] at h1
   obtain ⟨g, h2, h3⟩ := h1
   refine ⟨hjn, hL j hjC, by rw [h2], by rw [h2]; exact h3, by simp [fdO, hj, h2]⟩
  refine ⟨fun j t zs hj => (hnew j t zs hj).2.2.1, ?_⟩
  refine sat_newF H hE D (fun j t zs hj => ⟨(hnew j t zs hj).2.2.2.1, (hst.low j (hnew j t zs hj).1 (hnew j t zs hj).2.1 _ (hnew j t zs hj).2.2.2.2).1⟩) (fun i j t zs t' zs' hi hj hij he =>
   hst.apart i j (hnew i t zs hi).1 (hnew j t' zs' hj).1 (hnew i t zs hi).2.1 (hnew j t' zs' hj).2.1 hij _ (hnew i t zs hi).2.2.2.2 (by rw [he]; exact (hnew j t' zs' hj).2.2.2.2))
 refine region_extC (fl := fl) (S2 := Sat b F0) (Nat.le_of_ble_eq_true hn) hok hCs hm.on (hka.sub hsub) hda (fdF D) (fdO D) ?_ ?_ ?_ ?_ ?_ ?_
 ·intro j vs w1 w2 h hE
  unfold fdF at h ⊢
  split at h
  ·exact h
  ·obtain ⟨g, h1, h2⟩ := h; exact ⟨g, h1, h2.ext hE⟩
  ·trivial
 ·intro j vs vs' w1 h hv
  have e := hv j (.inl rfl)
  unfold fdF at h ⊢
  split at h
  ·rw [← e]; exact h
  ·obtain ⟨g, h1, h2⟩ := h; exact ⟨g, by rw [← e]; exact h1, h2⟩
  ·trivial
 ·intro i o hi ho vs a w' hE hk hφ
  obtain ⟨x, hxi⟩ := hx i hi
  obtain ⟨D0, hD0, hopk, _⟩ := hf i o x (Nat.zero_le _) ho hxi
  refine (hopk vs a w' (H.ext hE) (hkn i o hi ho D0 hD0 vs a w' hk hφ)).mono ?_
  rintro v w'' ⟨hE', hxv⟩
  refine ⟨hE', ?_, fun g hg => ?_⟩
  ·unfold fdF
   rw [hxi]
   cases x with
   | val u => simp only [upv, if_pos]; exact hxv
   | new t zs => obtain ⟨g, h1, h2, _⟩ := hxv; exact ⟨g, by simp only [upv, if_pos]; exact h1, h2⟩
  ·unfold fdO at hg
   rw [hxi] at hg
   cases x with
   | val u => cases hg
   | new t zs =>
    obtain ⟨g', h1, h2, h3⟩ := hxv
    subst h1
    simp only [Option.some.injEq] at hg
    subst hg
    exact ⟨h3, h2.lt⟩
 ·intro c o hc ho vs a w' hE hk hφ
  have hcn := (okExtC_c hok hc).1
  obtain ⟨x, hxi⟩ := hx c hcn
  obtain ⟨D0, hD0, _, hp⟩ := hf c o x (Nat.zero_le _) ho hxi
  obtain ⟨v, rfl, hpu⟩ := hp hc
  refine ⟨v, hpu vs a (hkn c o hcn ho D0 hD0 vs a w' hk hφ), ?_, ?_⟩
  ·simp [fdF, hxi, upv]
  ·simp [fdO, hxi]
 ·intro vs a' w' hst
  exact ((hnews vs a' w' (fun j hj => hj) hst hst.ext).2).ent (hend _).1
 ·intro vs a' w' hst
  obtain ⟨q1, q2⟩ := hnews vs a' w' (fun _ _ => trivial) hst hst.ext
  obtain ⟨e1, e2⟩ := hend (fun j => match vs j with | .pointer (some a) => a.block | _ => 0)
  have hE1 : knOf l E0 vs (List.range n) = knOf l E0 (gv D fun j => match vs j with | .pointer (some a) => a.block | _ => 0) (List.range n) := knOf_congr fun j hj => by
   have hjn := List.mem_range.1 hj
   obtain ⟨x, hxj⟩ := hx j hjn
   cases x with
   | val u => have := hst.fact j hjn trivial; simp only [fdF, hxj] at this; simp [gv, hxj, this]
   | new t zs => rw [q1 j t zs hxj]; simp [gv, hxj]
  have hk := hst.kn_of (List.range n) (fun j hj => ⟨List.mem_range.1 hj, trivial⟩)
  rw [hE1] at hk
  have := e2.1 w' q2 a' hk hst.dfs (q2.ent e1) (by intro j hj; simp [List.getElem?_drop])
  rwa [List.length_drop] at this

variable {D : List FD} {d : Nat} {op : Op} {ty : TypeId} {pos : String} {aft : Array Edge} {g : Option (Nat × Bool)} {v : Value}
theorem fc_pu (hx : ∀ vs, Pu P (env l E0 D ⟨some d, op, ty, pos, aft, g⟩ vs) op ty v) (h : FC P fl ro N n C l E0 ds b F F0 Q (D ++ [.val v]) rest) : FC P fl ro N n C l E0 ds b F F0 Q D (⟨some d, op, ty, pos, aft, g⟩ :: rest) :=
 .pstep (fun vs a hk W => hx vs W a.eval _ hk.hyp rfl rfl) h
theorem fc_p (hx : ∀ vs, pev tt (env l E0 D ⟨some d, op, ty, pos, aft, g⟩ vs) op = some v) (h : FC P fl ro N n C l E0 ds b F F0 Q (D ++ [.val v]) rest) : FC P fl ro N n C l E0 ds b F F0 Q D (⟨some d, op, ty, pos, aft, g⟩ :: rest) :=
 fc_pu (fun vs => pev_sound (tt := tt) (hx vs)) h
theorem fc_c {c : Prop} (hx : ∀ vs, pevc tt (env l E0 D ⟨some d, op, ty, pos, aft, g⟩ vs) op = some (c, v)) (hc : c) (h : FC P fl ro N n C l E0 ds b F F0 Q (D ++ [.val v]) rest) : FC P fl ro N n C l E0 ds b F F0 Q D (⟨some d, op, ty, pos, aft, g⟩ :: rest) :=
 fc_pu (fun vs => pevc_sound (tt := tt) (hx vs) hc) h
theorem fc_ex (hc : C.contains D.length = false) (hx : ∀ vs w, Sat b F w → Ex P (env l E0 D ⟨some d, op, ty, pos, aft, g⟩ vs) op ty w v w) (h : FC P fl ro N n C l E0 ds b F F0 Q (D ++ [.val v]) rest) : FC P fl ro N n C l E0 ds b F F0 Q D (⟨some d, op, ty, pos, aft, g⟩ :: rest) :=
 .step hc (fun vs _ w' H hk => eff_ex hk (hx vs w' H) ⟨Fr.refl _ _, rfl⟩) h
theorem fc_ld {t g' t0 off : Nat} {x : Operand} {i : TI} {cs : List Value} (q : Nat) (hc : C.contains D.length = false) (hop : op = .load t x) (ht : tt t = some i) (hagg : aggT i.desc = false) (hx : ∀ vs, ev (env l E0 D ⟨some d, op, ty, pos, aft, g⟩ vs) x = some (.pointer (some ⟨g', off, none⟩))) (hF : nth F q = some (pt g' t0 cs)) (hv : nth cs off = some v)
  (h : FC P fl ro N n C l E0 ds b F F0 Q (D ++ [.val v]) rest) : FC P fl ro N n C l E0 ds b F F0 Q D (⟨some d, op, ty, pos, aft, g⟩ :: rest) := by
 subst hop; exact fc_ex hc (fun vs => ex_ld q ht hagg (hx vs) hF hv) h
theorem fc_ldA {t g' t0 off : Nat} {x : Operand} {i : TI} {cs us : List Value} (q : Nat) (hc : C.contains D.length = false) (hop : op = .load t x) (ht : tt t = some i) (hagg : aggT i.desc = true) (hx : ∀ vs, ev (env l E0 D ⟨some d, op, ty, pos, aft, g⟩ vs) x = some (.pointer (some ⟨g', off, none⟩))) (hF : nth F q = some (pt g' t0 cs)) (hv : segO cs off i.size = some us)
  (h : FC P fl ro N n C l E0 ds b F F0 Q (D ++ [.val (.agg ⟨us⟩)]) rest) : FC P fl ro N n C l E0 ds b F F0 Q D (⟨some d, op, ty, pos, aft, g⟩ :: rest) := by
 subst hop; exact fc_ex hc (fun vs => ex_ldA q ht hagg (hx vs) hF hv) h
theorem fc_call {f : FuncId} {args : List Value} (hc : C.contains D.length = false) (hx : ∀ vs, callOf (env l E0 D ⟨some d, op, ty, pos, aft, g⟩ vs) op = some (f, args)) [hb : Bodied P f] (hs : ∀ w, Sat b F w → Calls P f args.toArray w fun e w' => e = .returned v ∧ Ext w w')
  (h : FC P fl ro N n C l E0 ds b F F0 Q (D ++ [.val v]) rest) : FC P fl ro N n C l E0 ds b F F0 Q D (⟨some d, op, ty, pos, aft, g⟩ :: rest) :=
 .step hc (fun vs _ w' H hk => eff_call hk (ec_call (hx vs)) ((hs w' H).mono fun _ _ ⟨h1, h2⟩ => ⟨v, h1, h2, rfl⟩)) h
theorem fc_new {t : Nat} {i : TI} {zs : List Value} (hc : C.contains D.length = false) (hop : op = .alloc t) (ht : tt t = some i) (hz : zlist i.zero = some zs) (h : FC P fl ro N n C l E0 ds b F F0 Q (D ++ [.new t zs]) rest) : FC P fl ro N n C l E0 ds b F F0 Q D (⟨some d, op, ty, pos, aft, g⟩ :: rest) := by
 subst hop
 refine .step (x := .new t zs) hc (fun vs _ w' H hk => eff_ex hk (ex_alloc (tt := tt) ht) ⟨Fr.alloc _ _, w'.heap.size, rfl, ?_, Nat.le_refl _⟩) h
 have := Blk.new w' t i.zero.cells.toList
 rw [zlist_eq hz] at this
 have e : zs.toArray = i.zero.cells := by rw [← zlist_eq hz]
 rw [← e]; exact this
theorem fc_look0 {α : Type} [DecidableEq α] {K : α → Value} {ok : α → Prop} {L : List (α × Value)} {a : α} (q : Nat) {t k e s1 s2 gm : Nat} {z1 : Value} {f1 : List (Nat × Nat)} {i : TI} {m x : Operand} (M : MK P k K ok) (ha : ok a) (hv : getM a L = none) (hc : C.contains D.length = false) (hop : op = .lookup t m x true) (ht : tt t = some ⟨.map k e, s1, s2, z1, f1⟩) (he : tt e = some i)
  (hm : ∀ vs, ev (env l E0 D ⟨some d, op, ty, pos, aft, g⟩ vs) m = some (.map (some gm))) (hx : ∀ vs, ev (env l E0 D ⟨some d, op, ty, pos, aft, g⟩ vs) x = some (K a)) (hF : nth F q = some (mp gm K ok L)) (h : FC P fl ro N n C l E0 ds b F F0 Q (D ++ [.val (.tuple ⟨[i.zero, .bool false]⟩)]) rest) :
  FC P fl ro N n C l E0 ds b F F0 Q D (⟨some d, op, ty, pos, aft, g⟩ :: rest) := by
 subst hop
 refine fc_ex hc (fun vs w H => ?_) h
 have := ex_look (ty := ty) (c := true) M ht he (hm vs) (hx vs) ha hF w H
 simpa [hv] using this
theorem fc_look1 {α : Type} [DecidableEq α] {K : α → Value} {ok : α → Prop} {L : List (α × Value)} {a : α} (q : Nat) {t k e s1 s2 gm : Nat} {z1 : Value} {f1 : List (Nat × Nat)} {i : TI} {m x : Operand} (M : MK P k K ok) (ha : ok a) (hv : getM a L = some v) (hc : C.contains D.length = false) (hop : op = .lookup t m x true) (ht : tt t = some ⟨.map k e, s1, s2, z1, f1⟩) (he : tt e = some i)
  (hm : ∀ vs, ev (env l E0 D ⟨some d, op, ty, pos, aft, g⟩ vs) m = some (.map (some gm))) (hx : ∀ vs, ev (env l E0 D ⟨some d, op, ty, pos, aft, g⟩ vs) x = some (K a)) (hF : nth F q = some (mp gm K ok L)) (h : FC P fl ro N n C l E0 ds b F F0 Q (D ++ [.val (.tuple ⟨[v, .bool true]⟩)]) rest) :
  FC P fl ro N n C l E0 ds b F F0 Q D (⟨some d, op, ty, pos, aft, g⟩ :: rest) := by
 subst hop
 refine fc_ex hc (fun vs w H => ?_) h
 have := ex_look (ty := ty) (c := true) M ht he (hm vs) (hx vs) ha hF w H
 simpa [hv] using this
theorem so_sub {E' : List (Nat × Value)} (hs : Sub E' E) (h : SO P ro N l rest Q E' ds b F) : SO P ro N l rest Q E ds b F := ⟨fun w H a hk hd => h.1 w H a (hk.sub hs) hd⟩
end
end Go.Eng
namespace Go.Eng
open Go Go.RowKit

section
variable {P : Program} {tt : Nat → Option TI} [TT P tt] {ro : Option Nat} {N : Nat} {l rest : List Oper} {Q : Exit → Act → World → Prop} {E : List (Nat × Value)} {ds : List Deferred} {b : World} {F F0 G : List SP} {fl : Oper → Bool} {kk : Nat}
 {d : Nat} {op : Op} {ty : TypeId} {pos : String} {aft : Array Edge} {g : Option (Nat × Bool)} {v : Value}
theorem ex_ldrow {t g' off e sz n cap at' : Nat} {x : Operand} {i : TI} {cs vs : List Value} (q o : Nat) (ht : tt t = some i) (hagg : aggT i.desc = true) (hx : ev E x = some (.pointer (some ⟨g', at', none⟩))) (hat : at' = off + o) (hF : nth F q = some (row e sz (.slice (some ⟨g', off, none⟩) n cap) n cs)) (hn : 0 < n)
  (hv : (cs.drop o).take i.size = vs) (hl : vs.length = i.size) : ∀ w, Sat b F w → Ex P E (.load t x) ty w (.agg ⟨vs⟩) w := fun w H => by
 obtain ⟨A, c, hv', h1, h2, h3, h4, h5⟩ := H.sl hF
 simp only [Value.slice.injEq] at hv'
 obtain ⟨rfl, _, rfl⟩ := hv'
 obtain ⟨b', off', hA, _, hc⟩ := h5 hn
 cases hA
 subst hat
 refine ex_loadN ht hagg hx hl fun j hj => ?_
 have hj2 : j < i.size := by omega
 have e1 : vs[j]? = cs[o + j]? := by
  rw [← hv, List.getElem?_take, if_pos hj2, List.getElem?_drop]
 rw [e1, Nat.add_assoc]
 refine hc (o + j) ?_
 have : (cs[o + j]?).isSome := by rw [← e1, List.getElem?_eq_getElem hj]; rfl
 rcases Nat.lt_or_ge (o + j) cs.length with h | h
 ·exact h
 ·rw [List.getElem?_eq_none h] at this; cases this
theorem so_ldrow {t g' off e sz n cap at' : Nat} {x : Operand} {i : TI} {cs vs : List Value} (q o : Nat) (hg : wants l E g = some true) (hop : op = .load t x) (ht : tt t = some i) (hagg : aggT i.desc = true) (hx : ev E x = some (.pointer (some ⟨g', at', none⟩))) (hF : nth F q = some (row e sz (.slice (some ⟨g', off, none⟩) n cap) n cs)) (hd : Nat.blt d N = true) (hat : at' = off + o) (hn : 0 < n)
  (hv : (cs.drop o).take i.size = vs) (hl : vs.length = i.size) (h : SO P ro N l rest Q ((d, .agg ⟨vs⟩) :: E) ds b F) : SO P ro N l (⟨some d, op, ty, pos, aft, g⟩ :: rest) Q E ds b F := by
 subst hop; exact so_rd hg (ex_ldrow q o ht hagg hx hat hF hn hv hl) hd h
theorem sd_ldrow {t g' off e sz n cap at' : Nat} {x : Operand} {i : TI} {cs vs : List Value} (q o : Nat) (hg : wants l E g = some true) (hop : op = .load t x) (ht : tt t = some i) (hagg : aggT i.desc = true) (hx : ev E x = some (.pointer (some ⟨g', at', none⟩))) (hF : nth F0 q = some (row e sz (.slice (some ⟨g', off, none⟩) n cap) n cs)) (hf : fl ⟨some d, op, ty, pos, aft, g⟩ = true) (hd : Nat.blt d N = true)
  (hat : at' = off + o) (hn : 0 < n) (hv : (cs.drop o).take i.size = vs) (hl : vs.length = i.size) (h : SD P fl ro N F0 l (kk + 1) rest Q ((d, .agg ⟨vs⟩) :: E) ds b F) : SD P fl ro N F0 l kk (⟨some d, op, ty, pos, aft, g⟩ :: rest) Q E ds b F := by
 subst hop; exact sd_rd hg (ex_ldrow q o ht hagg hx hat hF hn hv hl) hf hd h
theorem sd_strow {t g' off e sz n cap : Nat} {x y : Operand} {i : TI} {cs vs cs' : List Value} (k o : Nat) (hg : wants l E g = some true) (hf : fl ⟨none, op, ty, pos, aft, g⟩ = false) (hop : op = .store t x y) (ht : tt t = some i) (hx : ev E x = some (.pointer (some ⟨g', off, none⟩))) (hy : ev E y = some v) (hz : zlist v = some vs)
  {o0 : Nat} (hF : nth F k = some (row e sz (.slice (some ⟨g', o0, none⟩) n cap) n cs)) (hG : setF F k (row e sz (.slice (some ⟨g', o0, none⟩) n cap) n cs') = some G) (hc : spl cs o vs = cs') (hs : Nat.beq vs.length i.size = true) (ho : off = o0 + o) (hfit : o + vs.length ≤ cs.length) (hv : ∀ u ∈ vs, u.oneCell' = true) (hE : Ent G F0) (h : SD P fl ro N F0 l (kk + 1) rest Q E ds b G) :
  SD P fl ro N F0 l kk (⟨none, op, ty, pos, aft, g⟩ :: rest) Q E ds b F := by
 subst hop; exact sd_wr hg hf (eu_strow k ht hx hy hz hs hv hF ho hfit hc hG) hE h
theorem ex_lit1 {t e s1 s2 : Nat} {z1 : Value} {f1 : List (Nat × Nat)} {i : TI} {x : Operand} {cs : List Value} {w : World} (ht : tt t = some ⟨.slice e, s1, s2, z1, f1⟩) (he : tt e = some i) (hx : ev E x = some v) (hz : zlist v = some cs) (hl : cs.length = i.size) (hs : i.size ≤ 16777216) :
  Ex P E (.buildSlice t 1 ⟨[(0, x)]⟩) ty w (.slice (some ⟨w.heap.size, 0, none⟩) 1 1) (w.alloc (.cells cs.toArray e)) := by
 have hc := zlist_eq hz
 refine ex_buildSlice ht he (vs := [(0, v)]) (by simp [hx]) rfl (by omega) fun z hz' => ?_
 have h1 : Nat.beq v.cells.size i.size = true := by
  have : v.cells.size = i.size := by rw [← hl, ← hc]; simp
  rw [this]; exact Nat.beq_refl _
 have h2 : Nat.ble i.size z.length = true := Nat.ble_eq_true_of_le (by omega)
 simp only [fillL, h1, hc, spl, Nat.zero_mul, List.take_zero, List.nil_append, Nat.zero_add]
 rw [List.drop_of_length_le (by omega), List.append_nil, h2]
theorem so_lit1 {t e s1 s2 : Nat} {z1 : Value} {f1 : List (Nat × Nat)} {i : TI} {x : Operand} {cs : List Value} (hg : wants l E g = some true) (hop : op = .buildSlice t 1 ⟨[(0, x)]⟩) (ht : tt t = some ⟨.slice e, s1, s2, z1, f1⟩) (he : tt e = some i) (hx : ev E x = some v) (hz : zlist v = some cs) (hd : Nat.blt d N = true) (hl : cs.length = i.size) (hs : i.size ≤ 16777216)
  (h : ∀ g', SO P ro N l rest Q ((d, .slice (some ⟨g', 0, none⟩) 1 1) :: E) ds b (pt g' e cs :: F)) : SO P ro N l (⟨some d, op, ty, pos, aft, g⟩ :: rest) Q E ds b F := by
 subst hop
 exact ⟨fun w H => ow_ex hg (ex_lit1 ht he hx hz hl hs) hd ((h w.heap.size).1 _ (H.alloc (Fr.alloc w _) (Blk.new w e cs) (Nat.le_refl _)))⟩
theorem sd_lit1 {t e s1 s2 : Nat} {z1 : Value} {f1 : List (Nat × Nat)} {i : TI} {x : Operand} {cs : List Value} (hg : wants l E g = some true) (hf : fl ⟨some d, op, ty, pos, aft, g⟩ = false) (hop : op = .buildSlice t 1 ⟨[(0, x)]⟩) (ht : tt t = some ⟨.slice e, s1, s2, z1, f1⟩) (he : tt e = some i) (hx : ev E x = some v) (hz : zlist v = some cs) (hd : Nat.blt d N = true) (hl : cs.length = i.size) (hs : i.size ≤ 16777216) (hE : Ent F F0)
  (h : ∀ g', SD P fl ro N F0 l (kk + 1) rest Q ((d, .slice (some ⟨g', 0, none⟩) 1 1) :: E) ds b (pt g' e cs :: F)) : SD P fl ro N F0 l kk (⟨some d, op, ty, pos, aft, g⟩ :: rest) Q E ds b F := by
 subst hop
 exact ⟨fun w H => dw_ex hg hf (ex_lit1 ht he hx hz hl hs) ((H.ext (Fr.alloc w _)).ent hE) hd ((h w.heap.size).1 _ (H.alloc (Fr.alloc w _) (Blk.new w e cs) (Nat.le_refl _)))⟩
theorem sd_as {t t' : Nat} {i : TI} {x : Operand} (hg : wants l E g = some true) (hop : op = .typeAssert x t' t false) (hx : ev E x = some (.iface t v)) (ht : tt t = some i) (hi : isIface i.desc = false) (hf : fl ⟨some d, op, ty, pos, aft, g⟩ = true) (hd : Nat.blt d N = true) (h : SD P fl ro N F0 l (kk + 1) rest Q ((d, v) :: E) ds b F) :
  SD P fl ro N F0 l kk (⟨some d, op, ty, pos, aft, g⟩ :: rest) Q E ds b F := by subst hop; exact sd_pu hg (pu_as hx ht hi) hf hd h
variable {n : Nat} {C : List Nat} {E0 : List (Nat × Value)} {D : List FD}
end
end Go.Eng
namespace Go.Eng
open Go Go.RowKit

theorem law_of {P : Program} {f : FuncId} {args : List Value} {W : World} (h : SC P f args W [Is W] (fun v F' => v = .bool true ∧ F' = [Is W])) : Calls P f args.toArray W (fun e w' => e = .returned (.bool true) ∧ Ext W w') :=
 (h W (Sat.start W)).mono fun _ _ ⟨_, _, h1, ⟨h2, h3⟩, h4⟩ => by subst h2; subst h3; exact ⟨h1, h4.is (k := 0) rfl⟩
section
variable {P : Program} {tt : Nat → Option TI} [TT P tt] {ro : Option Nat} {N : Nat} {l rest : List Oper} {Q : Exit → Act → World → Prop} {E : List (Nat × Value)} {ds : List Deferred} {b : World} {F G : List SP}
 {d : Nat} {op : Op} {ty : TypeId} {pos : String} {aft : Array Edge} {g : Option (Nat × Bool)} {v : Value}
theorem so_s2v {src dst e s3 s4 s5 s6 : Nat} {z2 z3 : Value} {f2 f3 : List (Nat × Nat)} {i : TI} {x : Operand} {s : ByteArray} (hg : wants l E g = some true) (hop : op = .convert src dst x) (hs : tt src = some i) (hi : isSt i.desc = false) (hd' : tt dst = some ⟨.slice e, s5, s6, z3, f3⟩) (he : tt e = some ⟨.int .u8, s3, s4, z2, f2⟩)
  (hx : ev E x = some (.string s)) (hd : Nat.blt d N = true) (hsz : s.size ≤ 67108864)
  (h : ∀ g' c cs, (∀ (G : List SP) (w : World), Sat b (ptz g' e (cs.length, cs.length + 1) cs :: G) w → VL (Value.int .u8) w (.slice (some ⟨g', 0, none⟩) s.size c) (strI s)) → SO P ro N l rest Q ((d, .slice (some ⟨g', 0, none⟩) s.size c) :: E) ds b (ptz g' e (cs.length, cs.length + 1) cs :: F)) : SO P ro N l (⟨some d, op, ty, pos, aft, g⟩ :: rest) Q E ds b F := by
 subst hop
 constructor
 intro w H
 obtain ⟨cs, H', hcs⟩ := H.s2b e s 0
 have hm : grownCap w s.size 0 e ≤ 9223372036854775807 := Nat.le_trans (grownCap_le_maxLen w s.size 0 e (by unfold maxLen; omega)) (by unfold maxLen; omega)
 have hl := strI_length s
 exact ow_ex hg (ex_s2b hs hi hd' he hx w) hd ((h _ _ cs fun G w' H2 => H2.ptz_vl (k := 0) rfl hl.symm (grownCap_ge w s.size 0 e) hm fun j hj => hcs j (by omega)).1 _ H')
theorem so_lit0 {t e s1 s2 : Nat} {z1 : Value} {f1 : List (Nat × Nat)} {i : TI} (hg : wants l E g = some true) (hop : op = .buildSlice t 0 ⟨[]⟩) (ht : tt t = some ⟨.slice e, s1, s2, z1, f1⟩) (he : tt e = some i) (hd : Nat.blt d N = true)
  (h : ∀ g', SO P ro N l rest Q ((d, .slice (some ⟨g', 0, none⟩) 0 0) :: E) ds b (pt g' e [] :: F)) : SO P ro N l (⟨some d, op, ty, pos, aft, g⟩ :: rest) Q E ds b F := by
 subst hop
 exact ⟨fun w H => ow_ex hg (ex_buildSlice (vs := []) (cells := []) ht he rfl rfl (by omega) (fun z hz => by
  have : z = [] := List.eq_nil_of_length_eq_zero (by omega)
  subst this; rfl)) hd ((h w.heap.size).1 _ (H.alloc (Fr.alloc w _) (Blk.new w e []) (Nat.le_refl _)))⟩
end
end Go.Eng
namespace Go.Eng
open Go Go.RowKit Go.ChangeShapes Go.WideShapes Go.ChangeAt Go.Deep

abbrev Rdg (α : Type) := World → List Value → α → Prop
def rdI (k : IntKind) : Rdg Int := fun _ cs n => cs = [.int k n] ∧ (Lit.int k n).wf = true
def rdS : Rdg ByteArray := fun _ cs s => cs = [.string s] ∧ s.size ≤ maxLen
def rdL {α : Type} (sz : Nat) (R : Rdg α) : Rdg (Value × List α) := fun W cs x => cs = [x.1] ∧ ∃ ess : List (List Value), ess.length = x.2.length ∧ (∀ e ∈ ess, e.length = sz) ∧ SL W sz x.1 x.2.length ess.flatten ∧ ∀ (i : Nat) e a, ess[i]? = some e → x.2[i]? = some a → R W e a
def rdA (n : Nat) (k : IntKind) : Rdg (List Int) := fun _ cs x => cs = x.map (Value.int k) ∧ x.length = n ∧ ∀ c ∈ x, (Lit.int k c).wf = true
def rdN {α β : Type} (n : Nat) (R : Rdg α) (S : Rdg β) : Rdg (α × β) := fun W cs x => R W (cs.take n) x.1 ∧ S W (cs.drop n) x.2

def Opens {α : Type} (P : Program) (t : TypeId) (R : Rdg α) : Prop := ∀ (H : Type) (enc : TypeId × Value → H) (W : World) (base : Nat) (spare : Nat → Bool) (held : Bool) (fuel : Nat) (cs : List Value) y, DataW.trod enc P W base spare held fuel t cs = some y → ∃ x, R W cs x
variable {P : Program}
theorem opens_int {t : TypeId} {k : IntKind} (ht : P.underlying t = some (.int k)) : Opens P t (rdI k) := by
 intro H enc W base spare held fuel cs y h
 cases fuel with
 | zero => simp [DataW.trod] at h
 | succ n =>
  unfold DataW.trod at h
  rw [ht] at h
  split at h <;> simp_all
  exact ⟨_, ⟨by obtain ⟨⟨rfl, _⟩, _⟩ := h; rfl, h.1.2⟩⟩
theorem opens_str {t : TypeId} (ht : P.underlying t = some .string) : Opens P t rdS := by
 intro H enc W base spare held fuel cs y h
 cases fuel with
 | zero => simp [DataW.trod] at h
 | succ n =>
  unfold DataW.trod at h
  rw [ht] at h
  split at h <;> simp_all
  exact ⟨_, ⟨rfl, h.1⟩⟩
theorem flat_get {sz : Nat} : ∀ {ess : List (List Value)}, (∀ e ∈ ess, e.length = sz) → ∀ (i k : Nat), k < sz → ess.flatten[i * sz + k]? = (ess[i]?).bind (·[k]?)
 | [], _, i, k, _ => by simp
 | e :: ess, h, 0, k, hk => by
  have := h e (by simp)
  simp only [List.flatten_cons, Nat.zero_mul, Nat.zero_add]
  rw [List.getElem?_append_left (by omega)]; rfl
 | e :: ess, h, i + 1, k, hk => by
  have he := h e (by simp)
  have ih := flat_get (ess := ess) (fun x hx => h x (by simp [hx])) i k hk
  simp only [List.flatten_cons]
  rw [List.getElem?_append_right (by rw [he, Nat.succ_mul]; omega), he, show (i + 1) * sz + k - sz = i * sz + k by rw [Nat.succ_mul]; omega, ih]; rfl
theorem flat_len {sz : Nat} : ∀ {ess : List (List Value)}, (∀ e ∈ ess, e.length = sz) → ess.flatten.length = ess.length * sz
 | [], _ => by simp
 | e :: ess, h => by
  have ih := flat_len (ess := ess) (fun x hx => h x (by simp [hx]))
  simp only [List.flatten_cons, List.length_append, h e (by simp), ih, List.length_cons, Nat.succ_mul]; omega
theorem pick_list {β α : Type} (p : Nat → β → α → Prop) : ∀ n, (∀ i, i < n → ∃ c x, p i c x) → ∃ (cs : List β) (xs : List α), cs.length = n ∧ xs.length = n ∧ ∀ i c x, cs[i]? = some c → xs[i]? = some x → p i c x
 | 0, _ => ⟨[], [], rfl, rfl, by simp⟩
 | n + 1, h => by
  obtain ⟨cs, xs, h1, h2, h3⟩ := pick_list p n fun i hi => h i (by omega)
  obtain ⟨c, x, hp⟩ := h n (by omega)
  refine ⟨cs ++ [c], xs ++ [x], by simp [h1], by simp [h2], fun i c' x' e1 e2 => ?_⟩
  rcases Nat.lt_trichotomy i n with hi | rfl | hi
  ·rw [List.getElem?_append_left (by omega)] at e1 e2
   exact h3 i c' x' e1 e2
  ·rw [List.getElem?_append_right (by omega), h1] at e1
   rw [List.getElem?_append_right (by omega), h2] at e2
   simp at e1 e2; subst e1; subst e2; exact hp
  ·have := (List.getElem?_eq_some_iff.1 e1).1
   simp at this; omega
theorem opens_list {α : Type} {R : Rdg α} {t e : TypeId} {sz : Nat} (ht : P.underlying t = some (.slice e)) (hsz : P.cellsOf e = sz) (h0 : 0 < sz) (he : Opens P e R) : Opens P t (rdL sz R) := by
 intro H enc W base spare held fuel cs y h
 rcases open_slice ht h with ⟨rfl, _⟩ | ⟨a, len, cap, m, n, D, Pl, rfl, _, hc, hm, hmm, _, hel⟩
 ·exact ⟨(.slice none 0 0, []), rfl, [], rfl, by simp, ⟨none, 0, rfl, by simp, Nat.le_refl _, Nat.zero_le _, fun _ => rfl, fun h => absurd h (Nat.lt_irrefl 0)⟩, by simp⟩
 have hlm : len ≤ m := by rw [hmm]; split <;> omega
 rw [hsz] at hel
 obtain ⟨ess, xs, e1, e2, e3⟩ := pick_list (fun i c x => W.cells? base (a.add (i * sz)) sz = some c ∧ R W c x) len fun i hi => by
  obtain ⟨cs', h1, h2⟩ := hel i (by omega)
  obtain ⟨x, hx⟩ := he _ _ _ _ _ _ _ _ _ h2
  exact ⟨cs', x, h1, hx⟩
 have hlen : ∀ c ∈ ess, c.length = sz := fun c hc => by
  obtain ⟨i, hi, rfl⟩ := List.mem_iff_getElem.1 hc
  have := (e3 i _ _ (List.getElem?_eq_getElem hi) (List.getElem?_eq_getElem (l := xs) (i := i) (by omega))).1
  exact (World.cells?_some this).2.1
 refine ⟨(.slice (some a) len cap, xs), rfl, ess, by dsimp only; omega, hlen, ⟨some a, cap, by rw [e2], by rw [flat_len hlen, e1, e2], by dsimp only; omega, hm, by simp, fun hn => ?_⟩, fun i c x h1 h2 => (e3 i c x h1 h2).2⟩
 rw [e2] at hn
 have hcell : ∀ i k, i < len → k < sz → W.cell? (a.add (i * sz + k)) = ess.flatten[i * sz + k]? := fun i k hi hk => by
  have hi' : i < ess.length := by omega
  have := (e3 i _ _ (List.getElem?_eq_getElem hi') (List.getElem?_eq_getElem (l := xs) (i := i) (by omega))).1
  have h2 := (World.cells?_some this).2.2 k hk
  rw [flat_get hlen i k hk, List.getElem?_eq_getElem hi', Option.bind_some, ← h2]
  rw [Addr.add_add]
 obtain ⟨b, off, spot⟩ := a
 have h00 := hcell 0 0 hn h0
 have hfl := flat_len hlen
 have hpos : 0 < ess.flatten.length := by rw [hfl, e1]; exact Nat.mul_pos hn h0
 have hc0 : W.cell? ⟨b, off, spot⟩ = some ess.flatten[0] := by
  rw [← List.getElem?_eq_getElem hpos]
  simpa [Addr.add] using h00
 have hspot : spot = none := World.cell?_spot hc0
 subst hspot
 refine ⟨b, off, rfl, World.block_lt_of_cell? W _ hc0, fun j hj => ?_⟩
 rw [hfl, e1] at hj
 have hdm : j / sz * sz + j % sz = j := by rw [Nat.mul_comm]; exact Nat.div_add_mod j sz
 have := hcell (j / sz) (j % sz) (Nat.div_lt_of_lt_mul (by rw [Nat.mul_comm]; exact hj)) (Nat.mod_lt _ h0)
 rw [hdm] at this
 rw [← this]
 congr 1
 unfold Addr.add; split <;> simp_all
theorem opens_arr {t e : TypeId} {n : Nat} {k : IntKind} (ht : P.underlying t = some (.array n e)) (hu : P.underlying e = some (.int k)) (he : P.cellsOf e = 1) (hn : P.cellsOf t = n) : Opens P t (rdA n k) := by
 intro H enc W base spare held fuel cs y h
 cases fuel with
 | zero => simp [DataW.trod] at h
 | succ m =>
  unfold DataW.trod at h
  rw [ht] at h
  dsimp only at h
  rw [hn, he] at h
  by_cases hl : cs.length = n
  ·rw [if_pos hl] at h
   simp only [Option.map_eq_some_iff] at h
   obtain ⟨xs, hp, _⟩ := h
   have key : ∀ i, i < n → ∃ (_ : Unit) (x : Int), cs[i]? = some (.int k x) ∧ (Lit.int k x).wf = true := fun i hi => by
    have h1 := mapM_some_get hp i i (by simp [hi])
    have hlt : i < xs.length := by rw [mapM_some_length hp]; simpa using hi
    rw [List.getElem?_eq_getElem hlt] at h1
    obtain ⟨z, hz⟩ := opens_int hu _ _ _ _ _ _ _ _ _ h1
    refine ⟨(), z, ?_, hz.2⟩
    have h2 : ((cs.drop (i * 1)).take 1)[0]? = some (.int k z) := by rw [hz.1]; rfl
    simpa using h2
   obtain ⟨us, zs, u1, z2, z3⟩ := pick_list (fun i (_ : Unit) (x : Int) => cs[i]? = some (.int k x) ∧ (Lit.int k x).wf = true) n key
   have hz : ∀ i (hi : i < n), cs[i]? = some (.int k (zs[i]'(by omega))) ∧ (Lit.int k (zs[i]'(by omega))).wf = true := fun i hi =>
    z3 i () _ (List.getElem?_eq_getElem (l := us) (by omega)) (List.getElem?_eq_getElem (by omega))
   refine ⟨zs, ?_, z2, fun c hc => ?_⟩
   ·apply List.ext_getElem?
    intro i
    by_cases hi : i < n
    ·rw [(hz i hi).1, List.getElem?_map, List.getElem?_eq_getElem (by omega)]; rfl
    ·rw [List.getElem?_eq_none (by omega), List.getElem?_eq_none (by simp; omega)]
   ·obtain ⟨i, hi, rfl⟩ := List.mem_iff_getElem.1 hc
    exact (hz i (by omega)).2
  ·rw [if_neg hl] at h; cases h
inductive OpF (P : Program) : {α : Type} → List Field → Nat → Nat → Rdg α → Prop
 | one {α : Type} {f : Field} {o n : Nat} {R : Rdg α} (h1 : f.offset = o) (h2 : P.cellsOf f.type = n) (h : Opens P f.type R) : OpF P [f] o n R
 | cons {α β : Type} {f : Field} {fs : List Field} {o n m : Nat} {R : Rdg α} {S : Rdg β} (h1 : f.offset = o) (h2 : P.cellsOf f.type = n) (h : Opens P f.type R) (hs : OpF P fs (o + n) m S) : OpF P (f :: fs) o (n + m) (rdN n R S)
theorem opens_fields {α : Type} {fs : List Field} {o m : Nat} {R : Rdg α} (h : OpF P fs o m R) : ∀ {H : Type} {enc : TypeId × Value → H} {W : World} {base : Nat} {spare : Nat → Bool} {held : Bool} {fuel : Nat} {cs : List Value}, cs.length = o + m →
  (∀ (i : Nat) f, fs[i]? = some f → ∃ y, DataW.trod enc P W base spare held fuel f.type ((cs.drop f.offset).take (P.cellsOf f.type)) = some y) → ∃ x, R W (cs.drop o) x := by
 induction h with
 | @one α f o n R h1 h2 h =>
  intro H enc W base spare held fuel cs hl hf
  obtain ⟨y, hy⟩ := hf 0 _ rfl
  rw [h1, h2, List.take_of_length_le (by rw [List.length_drop]; omega)] at hy
  exact h _ _ _ _ _ _ _ _ _ hy
 | @cons α β f fs o n m R S h1 h2 h hs ih =>
  intro H enc W base spare held fuel cs hl hf
  obtain ⟨y, hy⟩ := hf 0 _ rfl
  rw [h1, h2] at hy
  obtain ⟨x1, hx1⟩ := h _ _ _ _ _ _ _ _ _ hy
  obtain ⟨x2, hx2⟩ := ih (fuel := fuel) (spare := spare) (base := base) (held := held) (enc := enc) (cs := cs) (W := W) (by omega) fun i f hf' => hf (i + 1) f hf'
  exact ⟨(x1, x2), hx1, by rw [List.drop_drop]; exact hx2⟩
theorem opens_struct {α : Type} {R : Rdg α} {t : TypeId} {fs : List Field} {m : Nat} (ht : P.underlying t = some (.struct ⟨fs⟩)) (hsz : P.cellsOf t = m) (h : OpF P fs 0 m R) : Opens P t R := by
 intro H enc W base spare held fuel cs y hy
 obtain ⟨xs, n, _, _, hl, hx, hf⟩ := DataW.trod_struct ht hy
 have := opens_fields h (enc := enc) (W := W) (base := base) (spare := spare) (held := held) (fuel := n) (cs := cs) (by omega) fun i f hf' => by
  have h1 := hf i f (by simpa using hf')
  have hi : i < xs.length := by
   have := (List.getElem?_eq_some_iff.1 hf').1
   simp at hx; omega
  rw [List.getElem?_eq_getElem hi] at h1
  exact ⟨_, h1⟩
 simpa using this
theorem open_arg {α : Type} {R : Rdg α} {t : TypeId} (ho : Opens P t R) {H : Type} {enc : TypeId × Value → H} {W : World} {base : Nat} {spare : Nat → Bool} {held : Bool} {v : Value} {d : DataW H} {ps : List MemPlace} (h : DataW.Trod enc P W base spare held t v d ps) : ∃ x, R W v.cells.toList x := by
 obtain ⟨fuel, hf⟩ := h
 exact ho _ _ _ _ _ _ _ _ _ hf
end Go.Eng
namespace Go.Eng
open Go Go.RowKit

theorem made_one (z : Value) (n : Nat) : (madeCells #[z] (n * 1)).toList = List.replicate n z := by
 apply List.ext_getElem
 ·simp [madeCells]
 ·intro i h1 h2
  simp [madeCells, Nat.mod_one]
section
variable {P : Program} {tt : Nat → Option TI} [TT P tt] {ro : Option Nat} {N : Nat} {l rest : List Oper} {Q : Exit → Act → World → Prop} {E : List (Nat × Value)} {ds : List Deferred} {b : World} {F G : List SP}
 {d : Nat} {op : Op} {ty : TypeId} {pos : String} {aft : Array Edge} {g : Option (Nat × Bool)} {v : Value}
theorem so_make {t e n sz s1 s2 : Nat} {z1 : Value} {f1 : List (Nat × Nat)} {i : TI} {x y : Operand} {m : Int} {cs : List Value} (hg : wants l E g = some true) (hd : Nat.blt d N = true) (hop : op = .makeSlice t x y)
  (ht : tt t = some ⟨.slice e, s1, s2, z1, f1⟩) (he : tt e = some i) (hi : (Nat.beq i.size sz && Nat.ble i.bytes 2097152) = true)
  (hx : ev E x = some (.int .i64 m)) (hy : ev E y = some (.int .i64 m)) (hm : m = (n : Int)) (hn : n ≤ 67108864) (hcs : (madeCells i.zero.cells (n * sz)).toList = cs)
  (h : ∀ g', SO P ro N l rest Q ((d, .slice (some ⟨g', 0, none⟩) n n) :: E) ds b (row e sz (.slice (some ⟨g', 0, none⟩) n n) n cs :: F)) : SO P ro N l (⟨some d, op, ty, pos, aft, g⟩ :: rest) Q E ds b F := by
 subst hcs
 exact ⟨fun w H => ow_make hg hd hop ht he hi hx hy hm hn (Nat.le_refl _) fun w' hmine hext => (h w.heap.size).1 w' (H.newOat hext (Mine.oat hmine))⟩
end
end Go.Eng
namespace Go.Eng
open Go Go.RowKit

section
variable {P : Program} {ro : Option Nat} {l : List Oper} {Q : Exit → Act → World → Prop} {S : World → Prop} {fl : Oper → Bool} {y : Nat} {oy : Oper}

def AN (P : Program) (fl : Oper → Bool) (ro : Option Nat) (l : List Oper) (S : World → Prop) (Q : Exit → Act → World → Prop) (oy : Oper) (R : List Nat) (a : Act) (w : World) : Prop :=
 Eff P ro oy a w fun v w' => S w' ∧ Tx P fl ro l S Q R (a.put oy.dst v) w'
def T1 (P : Program) (fl : Oper → Bool) (ro : Option Nat) (l : List Oper) (S : World → Prop) (Q : Exit → Act → World → Prop) (y : Nat) (oy : Oper) : List Nat → Act → World → Prop
 | [], a, w => AN P fl ro l S Q oy [] a w
 | i :: R, a, w => AN P fl ro l S Q oy (i :: R) a w ∧ ((ancs l i).contains y = false → ∃ o, l[i]? = some o ∧
   (Region.wanted o (yielded l.toArray a.tmps) = true →
    (fl o = true ∧ ∃ v, (∀ W, S W → (execOp a.eval o).run P W = .ok (.value v) W) ∧ T1 P fl ro l S Q y oy R (a.put o.dst v) w) ∨
    (fl o = false ∧ Eff P ro o a w fun v w' => S w' ∧ T1 P fl ro l S Q y oy R (a.put o.dst v) w')) ∧
   (Region.wanted o (yielded l.toArray a.tmps) = false → T1 P fl ro l S Q y oy R (a.put o.dst undef) w))
theorem T1.an {R : List Nat} {a : Act} {w : World} (h : T1 P fl ro l S Q y oy R a w) : AN P fl ro l S Q oy R a w := by
 cases R with
 | nil => exact h
 | cons i R => exact h.1

theorem eff_put {o p : Oper} {a : Act} {u : Value} {w : World} {n : Value → World → Prop} (hs : noSel o = true) (h : Apart l p o) : Eff P ro o (a.put p.dst u) w n ↔ Eff P ro o a w n := by
 unfold Eff; rw [run_put hs h]

theorem AN.first (hns : ∀ (i : Nat) (o : Oper), l[i]? = some o → noSel o = true) {i : Nat} {oi : Oper} (hi : l[i]? = some oi) (hf : fl oi = true) (hsy : noSel oy = true) (hyi : Apart l oy oi) {R1 R2 : List Nat} {a : Act} {w : World}
  (hap : ∀ r ∈ R1, ∀ p : Oper, l[(r : Nat)]? = some p → Apart l p oi) (h : AN P fl ro l S Q oy (R1 ++ i :: R2) a w) :
  ∃ v, Fl P l S oi a v ∧ AN P fl ro l S Q oy (R1 ++ R2) (a.put oi.dst v) w := by
 obtain ⟨g0, w0, hS0, ht0⟩ := h.some
 obtain ⟨v, hv, _⟩ := Tx.first hns hi hf R1 _ w0 hap hS0 ht0
 have hsi := hns _ _ hi
 have hv := (Fl.put hsi hyi).1 hv
 refine ⟨v, hv, ?_⟩
 unfold AN
 rw [eff_put hsy hyi.symm]
 refine Eff.mono h ?_
 rintro g w' ⟨hS', ht'⟩
 obtain ⟨v', hv', ht''⟩ := Tx.first hns hi hf R1 _ w' hap hS' ht'
 have hv' := (Fl.put hsi hyi).1 hv'
 have := Fl.unique hS' hv hv'
 subst this
 refine ⟨hS', ?_⟩
 rw [put_put hyi.symm]; exact ht''

theorem T1.first (hns : ∀ (i : Nat) (o : Oper), l[i]? = some o → noSel o = true) {i : Nat} {oi : Oper} (hi : l[i]? = some oi) (hf : fl oi = true) (hsy : noSel oy = true) (hyi : Apart l oy oi) (hyd : (ancs l i).contains y = false) {R2 : List Nat} :
  ∀ (R1 : List Nat) (a : Act) (w : World), (∀ r ∈ R1, ∀ p : Oper, l[(r : Nat)]? = some p → Apart l p oi) → S w → T1 P fl ro l S Q y oy (R1 ++ i :: R2) a w →
   ∃ v, Fl P l S oi a v ∧ T1 P fl ro l S Q y oy (R1 ++ R2) (a.put oi.dst v) w := by
 intro R1
 induction R1 with
 | nil =>
  intro a w _ hS h
  simp only [List.nil_append] at h ⊢
  obtain ⟨o, ho, hw, hn⟩ := h.2 hyd
  rw [hi] at ho
  cases ho
  cases hwant : Region.wanted oi (yielded l.toArray a.tmps) with
  | true =>
   rcases hw hwant with ⟨_, v, hv, ht⟩ | ⟨hff, _⟩
   ·exact ⟨v, ⟨fun _ => hv, fun hc => (by rw [hwant] at hc; cases hc)⟩, ht⟩
   ·rw [hf] at hff; cases hff
  | false => exact ⟨undef, ⟨fun hc => (by rw [hwant] at hc; cases hc), fun _ => rfl⟩, hn hwant⟩
 | cons r R1 ih =>
  intro a w hap hS h
  have hap' : ∀ r ∈ R1, ∀ p : Oper, l[(r : Nat)]? = some p → Apart l p oi := fun r hr => hap r (List.mem_cons_of_mem _ hr)
  obtain ⟨v0, hv0, han⟩ := AN.first hns hi hf hsy hyi (R1 := r :: R1) hap h.1
  have hsi := hns _ _ hi
  refine ⟨v0, hv0, han, fun hdr => ?_⟩
  obtain ⟨p, hp, hw, hn⟩ := h.2 hdr
  have hapr := hap r List.mem_cons_self p hp
  have hsp := hns _ _ hp
  cases hwant : Region.wanted p (yielded l.toArray a.tmps) with
  | false =>
   obtain ⟨v, hv, ht⟩ := ih _ w hap' hS (hn hwant)
   have hv := (Fl.put hsi hapr).1 hv
   have := Fl.unique hS hv0 hv
   subst this
   refine ⟨p, hp, fun hc => ?_, fun _ => ?_⟩
   ·rw [want_put hapr.symm, hwant] at hc; cases hc
   ·rw [put_put hapr.symm]; exact ht
  | true =>
   rcases hw hwant with ⟨hfp, u, hu, ht0⟩ | ⟨hfp, he⟩
   ·obtain ⟨v, hv, ht⟩ := ih _ w hap' hS ht0
    have hv := (Fl.put hsi hapr).1 hv
    have := Fl.unique hS hv0 hv
    subst this
    refine ⟨p, hp, fun _ => .inl ⟨hfp, u, ?_, ?_⟩, fun hc => ?_⟩
    ·rw [run_put hsp hapr.symm]; exact hu
    ·rw [put_put hapr.symm]; exact ht
    ·rw [want_put hapr.symm, hwant] at hc; cases hc
   ·refine ⟨p, hp, fun _ => .inr ⟨hfp, ?_⟩, fun hc => ?_⟩
    ·rw [eff_put hsp hapr.symm]
     refine he.mono ?_
     rintro u w' ⟨hS', ht'⟩
     obtain ⟨v', hv', ht''⟩ := ih _ w' hap' hS' ht'
     have hv' := (Fl.put hsi hapr).1 hv'
     have := Fl.unique hS' hv0 hv'
     subst this
     refine ⟨hS', ?_⟩
     rw [put_put hapr.symm]; exact ht''
    ·rw [want_put hapr.symm, hwant] at hc; cases hc

theorem T1.over (hns : ∀ (i : Nat) (o : Oper), l[i]? = some o → noSel o = true) {i : Nat} {oi : Oper} (hi : l[i]? = some oi) (hf : fl oi = false) (hsy : noSel oy = true) (hyd : (ancs l i).contains y = false) {R2 : List Nat} :
  ∀ (R1 : List Nat) (a : Act) (w : World), (∀ r ∈ R1, (ancs l r).contains y = false ∧ ∀ p : Oper, l[(r : Nat)]? = some p → Apart l p oi ∧ fl p = true ∧ Apart l oy p) → S w → T1 P fl ro l S Q y oy (R1 ++ i :: R2) a w →
   (Region.wanted oi (yielded l.toArray a.tmps) = true → Eff P ro oi a w fun v w' => S w' ∧ T1 P fl ro l S Q y oy (R1 ++ R2) (a.put oi.dst v) w') ∧
   (Region.wanted oi (yielded l.toArray a.tmps) = false → T1 P fl ro l S Q y oy (R1 ++ R2) (a.put oi.dst undef) w) := by
 intro R1
 induction R1 with
 | nil =>
  intro a w _ _ h
  simp only [List.nil_append] at h ⊢
  obtain ⟨o, ho, hw, hn⟩ := h.2 hyd
  rw [hi] at ho
  cases ho
  refine ⟨fun hwant => ?_, hn⟩
  rcases hw hwant with ⟨hff, _⟩ | ⟨_, he⟩
  ·rw [hf] at hff; cases hff
  ·exact he
 | cons r R1 ih =>
  intro a w hap hS h
  obtain ⟨hdr, hapr0⟩ := hap r List.mem_cons_self
  obtain ⟨p, hp, hw, hn⟩ := h.2 hdr
  obtain ⟨hapr, hfp, hyp⟩ := hapr0 p hp
  have hap' : ∀ r ∈ R1, (ancs l r).contains y = false ∧ ∀ p : Oper, l[(r : Nat)]? = some p → Apart l p oi ∧ fl p = true ∧ Apart l oy p := fun r hr => hap r (List.mem_cons_of_mem _ hr)
  have hsp := hns _ _ hp
  have hsi := hns _ _ hi
  -- p reads: its value, and what is left when it has run
  have key : ∃ u, Fl P l S p a u ∧ T1 P fl ro l S Q y oy (R1 ++ i :: R2) (a.put p.dst u) w := by
   cases hwant : Region.wanted p (yielded l.toArray a.tmps) with
   | false => exact ⟨undef, ⟨fun hc => (by rw [hwant] at hc; cases hc), fun _ => rfl⟩, hn hwant⟩
   | true =>
    rcases hw hwant with ⟨_, u, hu, ht0⟩ | ⟨hff, _⟩
    ·exact ⟨u, ⟨fun _ => hu, fun hc => (by rw [hwant] at hc; cases hc)⟩, ht0⟩
    ·rw [hfp] at hff; cases hff
  obtain ⟨u, hu, ht⟩ := key
  obtain ⟨h1, h2⟩ := ih _ w hap' hS ht
  rw [want_put hapr] at h1 h2
  -- back: p is laid ahead again
  have back : ∀ v w', S w' → T1 P fl ro l S Q y oy (R1 ++ R2) ((a.put p.dst u).put oi.dst v) w' → T1 P fl ro l S Q y oy (r :: (R1 ++ R2)) (a.put oi.dst v) w' := by
   intro v w' hS' ht'
   rw [← put_put hapr.symm] at ht'
   have hu' : Fl P l S p (a.put oi.dst v) u := (Fl.put hsp hapr.symm).2 hu
   refine ⟨?_, fun _ => ⟨p, hp, fun hc => .inl ⟨hfp, u, hu'.1 hc, ht'⟩, fun hc => ?_⟩⟩
   ·have han := ht'.an
    unfold AN at han ⊢
    rw [eff_put hsy hyp.symm] at han
    refine han.mono ?_
    rintro g w2 ⟨hS2, hT⟩
    refine ⟨hS2, p, hp, fun hc => .inl ⟨hfp, u, ?_, ?_⟩, fun hc => ?_⟩
    ·rw [run_put hsp hyp]
     rw [want_put hyp] at hc
     exact hu'.1 hc
    ·rw [put_put hyp]; exact hT
    ·rw [want_put hyp] at hc
     have := hu'.2 hc
     subst this
     rw [put_put hyp]; exact hT
   ·have := hu'.2 hc
    subst this
    exact ht'
  refine ⟨fun hwi => ?_, fun hwi => back _ _ hS (h2 hwi)⟩
  have he := h1 hwi
  rw [eff_put hsi hapr] at he
  exact he.mono fun v w' ⟨hS', ht'⟩ => ⟨hS', back _ _ hS' ht'⟩

def okFloat (fl : Oper → Bool) (y : Nat) (l : List Oper) : Bool :=
 let an := ancT l []
 okBack l && (match l[y]? with | some oy => oy.guard.isNone | none => false) &&
 (List.range l.length).all fun i => Nat.beq i y || match l[i]?, l[y]? with
  | some o, some oy => ((an.getD i []).contains y || (oy.apart l.toArray o && o.apart l.toArray oy)) &&
   ((List.range i).all fun j => Nat.beq j y || match l[j]? with
    | none => true
    | some p => ((an.getD i []).contains j || (p.apart l.toArray o && o.apart l.toArray p && (fl o || fl p))) && (fl o || (an.getD i []).contains y || !(an.getD j []).contains y))
  | _, _ => false
theorem okFloat_at (h : okFloat fl y l = true) {i : Nat} {o : Oper} (ho : l[i]? = some o) (hne : i ≠ y) : ∃ oy, l[y]? = some oy ∧ oy.guard = none ∧ (y ∈ ancs l i ∨ Apart l oy o) ∧
  ∀ j p, j < i → j ≠ y → l[j]? = some p → (j ∈ ancs l i ∨ (Apart l p o ∧ (fl o = true ∨ fl p = true))) ∧ (fl o = true ∨ y ∈ ancs l i ∨ (ancs l j).contains y = false) := by
 simp only [okFloat, Bool.and_eq_true] at h
 obtain ⟨⟨_, h1⟩, h2⟩ := h
 have hlt : i < l.length := (List.getElem?_eq_some_iff.1 ho).1
 have h3 := List.all_eq_true.1 h2 i (List.mem_range.2 hlt)
 have hb : Nat.beq i y = false := by
  cases hb : Nat.beq i y with
  | false => rfl
  | true => exact absurd (Nat.eq_of_beq_eq_true hb) hne
 cases hy : l[y]? with
 | none => rw [hy] at h1; cases h1
 | some oy =>
  rw [hy] at h1
  simp only [ho, hy, hb, Bool.false_or, Bool.and_eq_true, Bool.or_eq_true] at h3
  refine ⟨oy, rfl, by simpa using h1, ?_, fun j p hj hjy hp => ?_⟩
  ·rcases h3.1 with h4 | ⟨h4, h5⟩
   ·exact .inl (List.contains_iff_mem.1 h4)
   ·exact .inr ⟨h4, h5⟩
  ·have h4 := List.all_eq_true.1 h3.2 j (List.mem_range.2 hj)
   have hb2 : Nat.beq j y = false := by
    cases hb : Nat.beq j y with
    | false => rfl
    | true => exact absurd (Nat.eq_of_beq_eq_true hb) hjy
   simp only [hp, hb2, Bool.false_or, Bool.and_eq_true, Bool.or_eq_true, Bool.not_eq_true'] at h4
   refine ⟨?_, ?_⟩
   ·rcases h4.1 with h5 | ⟨⟨h5, h6⟩, h7⟩
    ·exact .inl (List.contains_iff_mem.1 h5)
    ·exact .inr ⟨⟨h5, h6⟩, h7⟩
   ·rcases h4.2 with (h5 | h5) | h5
    ·exact .inl h5
    ·exact .inr (.inl (List.contains_iff_mem.1 h5))
    ·exact .inr (.inr h5)
def others (l : List Oper) (y : Nat) : List Nat := (List.range l.length).filter fun i => !Nat.beq i y
theorem mem_others {i : Nat} : i ∈ others l y ↔ i < l.length ∧ i ≠ y := by
 simp only [others, List.mem_filter, List.mem_range, Bool.not_eq_true']
 refine ⟨fun ⟨h1, h2⟩ => ⟨h1, fun e => ?_⟩, fun ⟨h1, h2⟩ => ⟨h1, ?_⟩⟩
 ·subst e; rw [Nat.beq_refl] at h2; cases h2
 ·cases hb : Nat.beq i y with
  | false => rfl
  | true => exact absurd (Nat.eq_of_beq_eq_true hb) h2
theorem region_float (hok : okFloat fl y l = true) (hy : l[y]? = some oy) (hm : P.follows .mixedOrders = true) {id : Nat} {a : Act} {w : World} (hS : S w.drew)
  (h : T1 P fl ro l S Q y oy (others l y) a w.drew) : (Code.region id l.toArray true).wpIn (FR ro) 0 P Q a w := by
 have hb : okBack l = true := by simp only [okFloat, Bool.and_eq_true] at hok; exact hok.1.1
 have hns := okBack_ns hb
 have hsy := hns _ _ hy
 have hgy : oy.guard = none := by
  simp only [okFloat, Bool.and_eq_true, hy] at hok
  simpa using hok.1.2
 have hyl : y < l.length := (List.getElem?_eq_some_iff.1 hy).1
 have hpw : (others l y).Pairwise (· < ·) := List.pairwise_lt_range.filter _
 have hnd : (others l y).Nodup := hpw.imp fun h => Nat.ne_of_lt h
 let I : Array Bool → Act → World → Prop := fun listed a w => S w ∧ ((listed.getD y false = true ∧ Tx P fl ro l S Q (rest (others l y) listed) a w) ∨ (listed.getD y false = false ∧ T1 P fl ro l S Q y oy (rest (others l y) listed) a w))
 refine region_inv hb hm I ?_ ?_ ?_
 ·refine ⟨hS, .inr ⟨?_, ?_⟩⟩
  ·rw [Array.getD_eq_getD_getElem?, Array.getElem?_replicate]; split <;> rfl
  ·have : rest (others l y) (Array.replicate l.length false) = others l y := by
    unfold rest
    rw [List.filter_eq_self]
    intro i hi
    have := (mem_others.1 hi).1
    simp [this]
   rw [this]; exact h
 ·intro listed a w i o hsz hcl hI ho hf hdeps
  have hlt : i < l.length := (List.getElem?_eq_some_iff.1 ho).1
  obtain ⟨hSw, hI⟩ := hI
  by_cases hiy : i = y
  ·subst hiy
   rw [hy] at ho; cases ho
   have hT : T1 P fl ro l S Q i oy (rest (others l i) listed) a w := by
    rcases hI with ⟨h1, _⟩ | ⟨_, h1⟩
    ·rw [hf] at h1; cases h1
    ·exact h1
   have hwant : Region.wanted oy (yielded l.toArray a.tmps) = true := by simp [Region.wanted, hgy]
   refine ⟨fun _ => hT.an.mono ?_, fun hc => by rw [hwant] at hc; cases hc⟩
   rintro v w' ⟨hS', hT'⟩
   refine ⟨hS', .inl ⟨?_, ?_⟩⟩
   ·rw [Array.getD_eq_getD_getElem?, Array.getElem?_setIfInBounds, if_pos rfl, if_pos (by omega)]; rfl
   ·have : rest (others l i) (listed.setIfInBounds i true) = rest (others l i) listed := by
     unfold rest
     apply List.filter_congr
     intro j hj
     rw [getD_set_ne true (Ne.symm (mem_others.1 hj).2)]
    rw [this]; exact hT'
  ·have hio : i ∈ others l y := mem_others.2 ⟨hlt, hiy⟩
   have hft : listed.getD i true = false := by rw [getD_both (by omega)]; exact hf
   have hancl : ∀ r ∈ ancs l i, listed.getD r false = true := fun r hr => ancT_sound hcl l [] [] rfl rfl (fun i o h => by simp at h) i o ho hdeps r hr
   have hyk : (listed.setIfInBounds i true).getD y false = listed.getD y false := getD_set_ne false hiy
   obtain ⟨oy', hy', _, hay, hpairs⟩ := okFloat_at hok ho hiy
   rw [hy] at hy'; cases hy'
   have hanc : ∀ r, r < i → listed.getD r true = false → r ∈ others l y → ∀ p : Oper, l[(r : Nat)]? = some p → Apart l p o ∧ (fl o = true ∨ fl p = true) := fun r hr hu hro p hp => by
    rcases (hpairs r p hr (mem_others.1 hro).2 hp).1 with h1 | h1
    ·have := hancl r h1
     rw [getD_both (by have := (mem_others.1 hro).1; omega)] at hu
     rw [this] at hu; cases hu
    ·exact h1
   rcases hI with ⟨hyl2, hT⟩ | ⟨hyl2, hT⟩
   ·obtain ⟨h1, h2⟩ := step_of_Tx (fl := fl) hns hnd hpw hio ho (by omega) hft hanc hSw hT
    exact ⟨fun hw => (h1 hw).mono fun v w' ⟨hS', ht⟩ => ⟨hS', .inl ⟨hyk.trans hyl2, ht⟩⟩, fun hw => ⟨hSw, .inl ⟨hyk.trans hyl2, h2 hw⟩⟩⟩
   ·have hyi : y ∉ ancs l i := fun hm => by have := hancl y hm; rw [hyl2] at this; cases this
    have hyd : (ancs l i).contains y = false := by
     cases hc : (ancs l i).contains y with
     | false => rfl
     | true => exact absurd (List.contains_iff_mem.1 hc) hyi
    have hayo := hay.resolve_left hyi
    obtain ⟨R1, R2, hs1, hs2, hs3⟩ := filter_split (p := fun j => !listed.getD j true) hnd hio (by simp [hft]) hpw
    have hleft' : rest (others l y) (listed.setIfInBounds i true) = R1 ++ R2 := by
     rw [← hs3]
     unfold rest
     apply List.filter_congr
     intro j _
     by_cases hij : i = j
     ·subst hij
      simp [show i < listed.size by omega]
     ·rw [getD_set_ne true hij]
      simp [Ne.symm hij]
    have hmem : ∀ r ∈ R1, r ∈ others l y := fun r hr => by
     have : r ∈ (others l y).filter (fun j => !listed.getD j true) := by rw [hs1]; exact List.mem_append_left _ hr
     exact (List.mem_filter.1 this).1
    unfold rest at hT
    rw [hs1] at hT
    have fin : ∀ v w', S w' → T1 P fl ro l S Q y oy (R1 ++ R2) (a.put o.dst v) w' → I (listed.setIfInBounds i true) (a.put o.dst v) w' := fun v w' hS' ht => ⟨hS', .inr ⟨hyk.trans hyl2, by rw [hleft']; exact ht⟩⟩
    cases hfo : fl o with
    | true =>
     obtain ⟨v, hv, ht⟩ := T1.first hns ho hfo hsy hayo hyd R1 a w (fun r hr p hp => (hanc r (hs2 r hr).1 (by simpa using (hs2 r hr).2) (hmem r hr) p hp).1) hSw hT
     refine ⟨fun hw => ?_, fun hw => ?_⟩
     ·unfold Eff
      rw [hv.1 hw w hSw]
      exact fin _ _ hSw ht
     ·rw [hv.2 hw] at ht; exact fin _ _ hSw ht
    | false =>
     obtain ⟨h1, h2⟩ := T1.over hns ho hfo hsy hyd R1 a w (fun r hr => by
      have hr1 := (hs2 r hr).1
      have hr2 : listed.getD r true = false := by simpa using (hs2 r hr).2
      have hro := mem_others.1 (hmem r hr)
      have hrd : (ancs l r).contains y = false := by
       have hpr : l[r]? = some l[r] := List.getElem?_eq_getElem hro.1
       rcases (hpairs r l[r] hr1 hro.2 hpr).2 with h3 | h3 | h3
       ·rw [hfo] at h3; cases h3
       ·exact absurd h3 hyi
       ·exact h3
      refine ⟨hrd, fun p hp => ?_⟩
      obtain ⟨h3, h4⟩ := hanc r hr1 hr2 (hmem r hr) p hp
      refine ⟨h3, h4.resolve_left (by rw [hfo]; simp), ?_⟩
      obtain ⟨oy2, hy2, _, hay2, _⟩ := okFloat_at hok hp hro.2
      rw [hy] at hy2; cases hy2
      exact hay2.resolve_left fun hm => by rw [List.contains_iff_mem.2 hm] at hrd; cases hrd) hSw hT
     exact ⟨fun hw => (h1 hw).mono fun v w' ⟨hS', ht⟩ => fin _ _ hS' ht, fun hw => fin _ _ hSw (h2 hw)⟩
 ·intro listed a w hsz hI hall
  obtain ⟨_, hI⟩ := hI
  rcases hI with ⟨_, hT⟩ | ⟨h1, _⟩
  ·have : rest (others l y) listed = [] := by
    unfold rest
    rw [List.filter_eq_nil_iff]
    intro k hk
    have hkl := (mem_others.1 hk).1
    rw [getD_both (by omega), hall k hkl]
    simp
   rw [this] at hT
   exact hT
  ·rw [hall y hyl] at h1; cases h1
end
end Go.Eng
namespace Go.Eng
open Go Go.RowKit

structure Fy (P : Program) (tt : Nat → Option TI) (l : List Oper) (N y dy t : Nat) (zs : List Value) (oy : Oper) : Prop where
 at' : l[y]? = some oy
 op : oy.op = .alloc t
 dst : oy.dst = some dy
 gd : oy.guard = none
 lt : dy < N
 ti : ∃ i, tt t = some i ∧ zlist i.zero = some zs
def am (t : Nat) (zs : List Value) : Option Nat → List SP
 | none => []
 | some g => [pt g t zs]
def ix (y k n : Nat) : List Nat := (List.range' k n).filter fun i => !Nat.beq i y
theorem ix_cons {y k n : Nat} (h : Nat.beq k y = false) : ix y k (n + 1) = k :: ix y (k + 1) n := by simp only [ix, List.range'_succ]; rw [List.filter_cons_of_pos (by rw [h]; rfl)]
theorem ix_skip {y n : Nat} : ix y y (n + 1) = ix y (y + 1) n := by simp only [ix, List.range'_succ]; rw [List.filter_cons_of_neg (by simp)]
theorem ix_all {y k n : Nat} (h : Nat.blt y k = true) : ix y k n = List.range' k n := by
 unfold ix
 rw [List.filter_eq_self]
 intro i hi
 have h1 := (List.mem_range'_1.1 hi).1
 have h2 : y < k := Nat.le_of_ble_eq_true h
 cases hb : Nat.beq i y with
 | false => rfl
 | true => have := Nat.eq_of_beq_eq_true hb; omega

section
variable {P : Program} {tt : Nat → Option TI} [TT P tt] {ro : Option Nat} {N : Nat} {l rest : List Oper} {Q : Exit → Act → World → Prop} {E : List (Nat × Value)} {ds : List Deferred} {b : World} {F F0 G : List SP} {fl : Oper → Bool} {k : Nat}
 {y dy t : Nat} {zs : List Value} {oy o : Oper}

structure SV (P : Program) (tt : Nat → Option TI) (fl : Oper → Bool) (ro : Option Nat) (N : Nat) (F0 : List SP) (y dy t : Nat) (zs : List Value) (oy : Oper) (l : List Oper) (k : Nat) (rest : List Oper) (Q : Exit → Act → World → Prop) (E : List (Nat × Value)) (ds : List Deferred) (b : World) (F : List SP) : Prop where
 run : Fy P tt l N y dy t zs oy → ∀ (m : Option Nat) (w : World), Sat b (F ++ am t zs m) w → Sat b F0 w → ∀ a, Kn N E a → (∀ g, m = some g → a.tmps[dy]? = some (.pointer (some ⟨g, 0, none⟩))) → a.defers = ds → (∀ j : Nat, j < rest.length → rest[j]? = l[k + j]?) →
  (m = none → T1 P fl ro l (Sat b F0) Q y oy (ix y k rest.length) a w) ∧ (m.isSome = true → Tx P fl ro l (Sat b F0) Q (ix y k rest.length) a w)

theorem ent_pre (A : List SP) : Ent (F ++ A) F := by
 rintro m ⟨H, a, b, c⟩
 refine ⟨H, a, b, fun i X hX => c i X ?_⟩
 rw [nth_append]
 have : i < F.length := by rw [nth_eq] at hX; exact (List.getElem?_eq_some_iff.1 hX).1
 rw [if_pos this]; exact hX
theorem fy_eff (hy : Fy P tt l N y dy t zs oy) {a : Act} {w : World} (H : Sat b F w) (H0 : Sat b F0 w) {n : Value → World → Prop} (h : ∀ g w', Sat b (F ++ [pt g t zs]) w' → Sat b F0 w' → n (.pointer (some ⟨g, 0, none⟩)) w') : Eff P ro oy a w n := by
 obtain ⟨i, ht, hz⟩ := hy.ti
 have hx := ex_alloc (P := P) (E := []) (ty := oy.type) (w := w) ht
 unfold Eff
 have hev : ∀ x u, ev ([] : List (Nat × Value)) x = some u → a.eval x = u := fun x u hxu => by
  cases x with
  | tmp t => simp [ev, look] at hxu
  | const v => simp [ev] at hxu; subst hxu; rfl
  | global g => simp [ev] at hxu; subst hxu; rfl
  | func f => simp [ev] at hxu; subst hxu; rfl
 rw [hx a.eval oy hev hy.op rfl]
 have hB := Blk.new w t i.zero.cells.toList
 rw [zlist_eq hz] at hB
 have e : zs.toArray = i.zero.cells := by rw [← zlist_eq hz]
 rw [e] at hB
 have hE := Fr.alloc (S := fun _ => False) w (.cells i.zero.cells t)
 refine h _ _ ((H.alloc hE hB (Nat.le_refl _)).ent (ent_perm (List.perm_append_singleton _ _).symm)) (H0.ext hE)
theorem put_other {a : Act} {d : Nat} {v u : Value} (hd : Nat.beq d dy = false) (h : a.tmps[dy]? = some u) : (a.put (some d) v).tmps[dy]? = some u := by
 have hne : d ≠ dy := fun e => by subst e; rw [Nat.beq_refl] at hd; cases hd
 simp only [Act.put]
 rw [Array.getElem?_setIfInBounds_ne hne]
 exact h
theorem kn_dy {E : List (Nat × Value)} {a : Act} (hk : Kn N E a) (hE : look E dy = none) (v : Value) : Kn N E (a.put (some dy) v) := by
 refine ⟨by simp [Act.put, hk.1], fun i u hi => ?_⟩
 have hne : dy ≠ i := fun e => by subst e; rw [hE] at hi; cases hi
 simp only [Act.put]
 rw [Array.getElem?_setIfInBounds_ne hne]
 exact hk.2 i u hi
def Tm (P : Program) (fl : Oper → Bool) (ro : Option Nat) (l : List Oper) (S : World → Prop) (Q : Exit → Act → World → Prop) (y : Nat) (oy : Oper) (R : List Nat) (m : Option Nat) (a : Act) (w : World) : Prop :=
 (m = none → T1 P fl ro l S Q y oy R a w) ∧ (m.isSome = true → Tx P fl ro l S Q R a w)
def Hd (P : Program) (fl : Oper → Bool) (ro : Option Nat) (l : List Oper) (S : World → Prop) (Q : Exit → Act → World → Prop) (y : Nat) (oy : Oper) (k : Nat) (R : List Nat) (m : Option Nat) (a : Act) (w : World) : Prop :=
 ∃ o, l[k]? = some o ∧ (Region.wanted o (yielded l.toArray a.tmps) = true →
  (fl o = true ∧ ∃ v, (∀ W, S W → (execOp a.eval o).run P W = .ok (.value v) W) ∧ Tm P fl ro l S Q y oy R m (a.put o.dst v) w) ∨
  (fl o = false ∧ Eff P ro o a w fun v w' => S w' ∧ Tm P fl ro l S Q y oy R m (a.put o.dst v) w')) ∧
  (Region.wanted o (yielded l.toArray a.tmps) = false → Tm P fl ro l S Q y oy R m (a.put o.dst undef) w)
theorem sv_cons (hky : Nat.beq k y = false) (hE : look E dy = none)
  (hs : Fy P tt l N y dy t zs oy → ∀ (m : Option Nat) (w : World), Sat b (F ++ am t zs m) w → Sat b F0 w → ∀ a, Kn N E a → (∀ g, m = some g → a.tmps[dy]? = some (.pointer (some ⟨g, 0, none⟩))) → a.defers = ds →
   l[k]? = some o → (∀ j : Nat, j < rest.length → rest[j]? = l[(k + 1) + j]?) → Hd P fl ro l (Sat b F0) Q y oy k (ix y (k + 1) rest.length) m a w) :
  SV P tt fl ro N F0 y dy t zs oy l k (o :: rest) Q E ds b F := by
 constructor
 intro hy
 have hsome : ∀ g w, Sat b (F ++ [pt g t zs]) w → Sat b F0 w → ∀ a, Kn N E a → a.tmps[dy]? = some (.pointer (some ⟨g, 0, none⟩)) → a.defers = ds → (∀ j : Nat, j < (o :: rest).length → (o :: rest)[j]? = l[k + j]?) → Tx P fl ro l (Sat b F0) Q (ix y k (rest.length + 1)) a w := by
  intro g w H H0 a hk hsl hd hl
  obtain ⟨ho, hl'⟩ := dw_tail hl
  obtain ⟨o', ho', h1, h2⟩ := hs hy (some g) w H H0 a hk (fun g' e => by cases e; exact hsl) hd ho hl'
  rw [ix_cons hky]
  refine ⟨o', ho', fun hw => ?_, fun hw => (h2 hw).2 rfl⟩
  rcases h1 hw with ⟨hf, v, hv, hT⟩ | ⟨hf, he⟩
  ·exact .inl ⟨hf, v, hv, hT.2 rfl⟩
  ·exact .inr ⟨hf, he.mono fun v w' ⟨hS', hT⟩ => ⟨hS', hT.2 rfl⟩⟩
 intro m w H H0 a hk hsl hd hl
 cases m with
 | some g => exact ⟨(fun h => by cases h), fun _ => hsome g w H H0 a hk (hsl g rfl) hd hl⟩
 | none =>
  refine ⟨fun _ => ?_, (fun h => by cases h)⟩
  obtain ⟨ho, hl'⟩ := dw_tail hl
  have hF : Sat b F w := H.ent (ent_pre _)
  have hAN : AN P fl ro l (Sat b F0) Q oy (ix y k (rest.length + 1)) a w := fy_eff hy hF H0 fun g w' H1 H2 => by
   refine ⟨H2, ?_⟩
   rw [hy.dst]
   refine hsome g w' H1 H2 _ (kn_dy hk hE _) ?_ (by rw [put_defers']; exact hd) hl
   simp only [Act.put]
   rw [Array.getElem?_setIfInBounds_self_of_lt (by rw [hk.1]; exact hy.lt)]
  show T1 P fl ro l (Sat b F0) Q y oy (ix y k (rest.length + 1)) a w
  rw [ix_cons hky] at hAN ⊢
  refine ⟨hAN, fun _ => ?_⟩
  obtain ⟨o', ho', h1, h2⟩ := hs hy none w H H0 a hk hsl hd ho hl'
  refine ⟨o', ho', fun hw => ?_, fun hw => (h2 hw).1 rfl⟩
  rcases h1 hw with ⟨hf, v, hv, hT⟩ | ⟨hf, he⟩
  ·exact .inl ⟨hf, v, hv, hT.1 rfl⟩
  ·exact .inr ⟨hf, he.mono fun v w' ⟨hS', hT⟩ => ⟨hS', hT.1 rfl⟩⟩

variable {d : Nat} {op : Op} {ty : TypeId} {pos : String} {aft : Array Edge} {g : Option (Nat × Bool)} {v : Value}
theorem sv_skip (hky : Nat.beq k y = false) (hE : look E dy = none) (hdy : Nat.beq d dy = false) (hg : wants l E g = some false) (hd : Nat.blt d N = true) (h : SV P tt fl ro N F0 y dy t zs oy l (k + 1) rest Q ((d, undef) :: E) ds b F) :
  SV P tt fl ro N F0 y dy t zs oy l k (⟨some d, op, ty, pos, aft, g⟩ :: rest) Q E ds b F := sv_cons hky hE fun hy m w H H0 a hk hsl hds ho hl => by
 have hw := wanted_of (o := ⟨some d, op, ty, pos, aft, g⟩) hk hg
 refine ⟨_, ho, fun hc => ?_, fun _ => h.run hy m w H H0 _ (hk.put hd) (fun g' e => put_other hdy (hsl g' e)) (by rw [put_defers']; exact hds) hl⟩
 rw [hw] at hc; cases hc
theorem sv_rd (hky : Nat.beq k y = false) (hE : look E dy = none) (hdy : Nat.beq d dy = false) (hg : wants l E g = some true) (hf : fl ⟨some d, op, ty, pos, aft, g⟩ = true) (hx : ∀ W, Sat b F0 W → Ex P E op ty W v W) (hd : Nat.blt d N = true)
  (h : SV P tt fl ro N F0 y dy t zs oy l (k + 1) rest Q ((d, v) :: E) ds b F) : SV P tt fl ro N F0 y dy t zs oy l k (⟨some d, op, ty, pos, aft, g⟩ :: rest) Q E ds b F := sv_cons hky hE fun hy m w H H0 a hk hsl hds ho hl => by
 have hw := wanted_of (o := ⟨some d, op, ty, pos, aft, g⟩) hk hg
 refine ⟨_, ho, fun _ => .inl ⟨hf, v, fun W hW => hx W hW a.eval _ hk.hyp rfl rfl, h.run hy m w H H0 _ (hk.put hd) (fun g' e => put_other hdy (hsl g' e)) (by rw [put_defers']; exact hds) hl⟩, fun hc => ?_⟩
 rw [hw] at hc; cases hc
theorem sv_pu (hky : Nat.beq k y = false) (hE : look E dy = none) (hdy : Nat.beq d dy = false) (hg : wants l E g = some true) (hx : Pu P E op ty v) (hf : fl ⟨some d, op, ty, pos, aft, g⟩ = true) (hd : Nat.blt d N = true)
  (h : SV P tt fl ro N F0 y dy t zs oy l (k + 1) rest Q ((d, v) :: E) ds b F) : SV P tt fl ro N F0 y dy t zs oy l k (⟨some d, op, ty, pos, aft, g⟩ :: rest) Q E ds b F := sv_rd hky hE hdy hg hf (fun W _ => hx W) hd h
theorem sv_1 (hky : Nat.beq k y = false) (hE : look E dy = none) (hdy : Nat.beq d dy = false) (h1 : step1 tt N l E o = some (d, v)) (hf : fl o = true ∨ wants l E o.guard = some false) (h : SV P tt fl ro N F0 y dy t zs oy l (k + 1) rest Q ((d, v) :: E) ds b F) : SV P tt fl ro N F0 y dy t zs oy l k (o :: rest) Q E ds b F := by
 obtain ⟨op, ty, pos, aft, g, rfl, h2, ⟨h3, h4⟩ | ⟨h3, rfl⟩⟩ := step1_inv h1
 ·rcases hf with hf | hf
  ·exact sv_pu hky hE hdy h3 (pevx_sound h4) hf h2 h
  ·rw [h3] at hf; cases hf
 ·exact sv_skip hky hE hdy h3 h2 h
theorem sv_2 {c : Prop} (hky : Nat.beq k y = false) (hE : look E dy = none) (hdy : Nat.beq d dy = false) (h1 : step2 tt N l E o = some (d, c, v)) (hf : fl o = true) (hc : c) (h : SV P tt fl ro N F0 y dy t zs oy l (k + 1) rest Q ((d, v) :: E) ds b F) : SV P tt fl ro N F0 y dy t zs oy l k (o :: rest) Q E ds b F := by
 obtain ⟨op, ty, pos, aft, g, rfl, h2, h3, h4⟩ := step2_inv h1
 exact sv_pu hky hE hdy h3 (pevy_sound h4 hc) hf h2 h
theorem sv_l {g' off t0 : Nat} {cs : List Value} {m : Option Nat} (q : Nat) (hky : Nat.beq k y = false) (hE : look E dy = none) (hdy : Nat.beq d dy = false) (h1 : ldv tt N l E o = some (d, g', off, m)) (hF : nth F0 q = some (pt g' t0 cs)) (hv : cellv cs off m = some v) (hf : fl o = true)
  (h : SV P tt fl ro N F0 y dy t zs oy l (k + 1) rest Q ((d, v) :: E) ds b F) : SV P tt fl ro N F0 y dy t zs oy l k (o :: rest) Q E ds b F := by
 obtain ⟨t, x, ty, pos, aft, g, i, rfl, h2, h3, h4, h5, h6⟩ := ldv_inv h1
 exact sv_rd hky hE hdy h3 hf (ld_ex q h4 h5 h6 hF hv) h2 h
theorem sv_call {f : FuncId} {args : List Value} {R : Value → List SP → Prop} (hky : Nat.beq k y = false) (hE : look E dy = none) (hdy : Nat.beq d dy = false) (hg : wants l E g = some true) (hf : fl ⟨some d, op, ty, pos, aft, g⟩ = false) (hx : callOf E op = some (f, args)) [hb : Bodied P f] (hd : Nat.blt d N = true)
  (hs : ∀ A : List SP, SC P f args b (F ++ A) (fun v G => ∃ F', R v F' ∧ G = F' ++ A))
  (h : ∀ v F', R v F' → Ent F' F0 ∧ SV P tt fl ro N F0 y dy t zs oy l (k + 1) rest Q ((d, v) :: E) ds b F') : SV P tt fl ro N F0 y dy t zs oy l k (⟨some d, op, ty, pos, aft, g⟩ :: rest) Q E ds b F := sv_cons hky hE fun hy m w H H0 a hk hsl hds ho hl => by
 have hw := wanted_of (o := ⟨some d, op, ty, pos, aft, g⟩) hk hg
 refine ⟨_, ho, fun _ => .inr ⟨hf, ?_⟩, fun hc => ?_⟩
 ·have hec := ec_call (P := P) (ty := ty) (w := w) hx
  unfold Eff
  rw [hec a.eval ⟨some d, op, ty, pos, aft, g⟩ hk.hyp rfl rfl]
  refine (hs (am t zs m) w H).mono ?_
  rintro e w' ⟨v, G, rfl, ⟨F', hR, rfl⟩, hG⟩
  obtain ⟨he, h'⟩ := h v F' hR
  have hF' : Sat b F0 w' := (hG.ent (ent_pre _)).ent he
  exact ⟨v, rfl, hF', h'.run hy m w' hG hF' _ (hk.put hd) (fun g' e => put_other hdy (hsl g' e)) (by rw [put_defers']; exact hds) hl⟩
 ·rw [hw] at hc; cases hc
theorem sv_callE {f : FuncId} {args : List Value} (hky : Nat.beq k y = false) (hE : look E dy = none) (hdy : Nat.beq d dy = false) (hg : wants l E g = some true) (hf : fl ⟨some d, op, ty, pos, aft, g⟩ = false) (hx : callOf E op = some (f, args)) [hb : Bodied P f] (hd : Nat.blt d N = true)
  (hs : ∀ A : List SP, SC P f args b (F ++ A) (fun u G => u = v ∧ G = F ++ A)) (he : Ent F F0)
  (h : SV P tt fl ro N F0 y dy t zs oy l (k + 1) rest Q ((d, v) :: E) ds b F) : SV P tt fl ro N F0 y dy t zs oy l k (⟨some d, op, ty, pos, aft, g⟩ :: rest) Q E ds b F :=
 sv_call (R := fun u F' => u = v ∧ F' = F) hky hE hdy hg hf hx hd (fun A => (hs A).mono fun u G ⟨h1, h2⟩ => ⟨F, ⟨h1, rfl⟩, h2⟩) fun u F' ⟨h1, h2⟩ => by subst h1; subst h2; exact ⟨he, h⟩
theorem sv_at (h : SV P tt fl ro N F0 y dy t zs oy l (y + 1) rest Q E ds b F) : SV P tt fl ro N F0 y dy t zs oy l y (o :: rest) Q E ds b F := by
 have _ : TT P tt := inferInstance
 constructor
 intro hy m w H H0 a hk hsl hd hl
 have := h.run hy m w H H0 a hk hsl hd (dw_tail hl).2
 rw [List.length_cons, ix_skip]; exact this
theorem sv_join (hyk : Nat.blt y k = true) (hdep : (ancs l k).contains y = true) (hE : look E dy = none) (h : ∀ g, Ent (pt g t zs :: F) F0 ∧ SD P fl ro N F0 l k (o :: rest) Q ((dy, .pointer (some ⟨g, 0, none⟩)) :: E) ds b (pt g t zs :: F)) :
  SV P tt fl ro N F0 y dy t zs oy l k (o :: rest) Q E ds b F := by
 constructor
 intro hy
 have hsome : ∀ g w, Sat b (F ++ [pt g t zs]) w → Sat b F0 w → ∀ a, Kn N E a → a.tmps[dy]? = some (.pointer (some ⟨g, 0, none⟩)) → a.defers = ds → (∀ j : Nat, j < (o :: rest).length → (o :: rest)[j]? = l[k + j]?) → Tx P fl ro l (Sat b F0) Q (ix y k (rest.length + 1)) a w := by
  intro g w H H0 a hk hsl hd hl
  rw [ix_all hyk]
  have H' : Sat b (pt g t zs :: F) w := H.ent (ent_perm (List.perm_append_singleton _ _))
  have hk' : Kn N ((dy, .pointer (some ⟨g, 0, none⟩)) :: E) a := ⟨hk.1, fun i u hi => by
   simp only [look] at hi
   split at hi
   ·rename_i hb
    have := Nat.eq_of_beq_eq_true hb
    subst this; cases hi; exact hsl
   ·exact hk.2 i u hi⟩
  exact (h g).2.run w H' a hk' hd H0 hl
 intro m w H H0 a hk hsl hd hl
 cases m with
 | some g => exact ⟨(fun h => by cases h), fun _ => hsome g w H H0 a hk (hsl g rfl) hd hl⟩
 | none =>
  refine ⟨fun _ => ?_, (fun h => by cases h)⟩
  have hF : Sat b F w := H.ent (ent_pre _)
  have hAN : AN P fl ro l (Sat b F0) Q oy (ix y k (rest.length + 1)) a w := fy_eff hy hF H0 fun g w' H1 H2 => by
   refine ⟨H2, ?_⟩
   rw [hy.dst]
   refine hsome g w' H1 H2 _ (kn_dy hk hE _) ?_ (by rw [put_defers']; exact hd) hl
   simp only [Act.put]
   rw [Array.getElem?_setIfInBounds_self_of_lt (by rw [hk.1]; exact hy.lt)]
  show T1 P fl ro l (Sat b F0) Q y oy (ix y k (rest.length + 1)) a w
  have e : ix y k (rest.length + 1) = k :: List.range' (k + 1) rest.length := by rw [ix_all hyk, List.range'_succ]
  rw [e] at hAN ⊢
  exact ⟨hAN, fun hc => by rw [hdep] at hc; cases hc⟩
theorem sw_float (y dy : Nat) {i : TI} (F0 : List SP) [hm : Mixed P] {id : Nat} (hok : okFloat fl y l = true) (hat : nth l y = some ⟨some dy, .alloc t, ty, pos, aft, none⟩) (ht : tt t = some i) (hz : zlist i.zero = some zs) (hd : Nat.blt dy N = true) (he : Ent F F0)
  (h : SV P tt fl ro N F0 y dy t zs ⟨some dy, .alloc t, ty, pos, aft, none⟩ l 0 l Q E ds b F) : SW P ro N (.region id l.toArray true) Q E ds b F := by
 have _ : TT P tt := inferInstance
 constructor
 intro w H a hk hda
 rw [nth_eq] at hat
 have H1 : Sat b F w.drew := H.ext (Fr.drew w)
 refine region_float hok hat hm.on (S := Sat b F0) (H1.ent he) ?_
 have := (h.run ⟨hat, rfl, rfl, rfl, Nat.le_of_ble_eq_true hd, i, ht, hz⟩ none w.drew (by simpa [am] using H1) (H1.ent he) a hk (fun _ e => by cases e) hda (fun j _ => by simp)).1 rfl
 have e : ix y 0 l.length = others l y := by unfold ix others; rw [List.range_eq_range']
 rw [e] at this
 exact this
end
end Go.Eng
namespace Go.Eng
open Go Go.RowKit

section
variable {P : Program} {tt : Nat → Option TI} [TT P tt] {ro : Option Nat} {N : Nat} {l rest : List Oper} {Q : Exit → Act → World → Prop} {E : List (Nat × Value)} {ds : List Deferred} {b : World} {F F0 G : List SP} {fl : Oper → Bool} {kk : Nat}
 {d : Nat} {op : Op} {ty : TypeId} {pos : String} {aft : Array Edge} {g : Option (Nat × Bool)} {v : Value}
theorem row_cell {e sz n c gg off k : Nat} {cs : List Value} {u : Value} (hk : nth F k = some (row e sz (.slice (some ⟨gg, off, none⟩) n c) n cs)) {j : Nat} (hj : cs[j]? = some u) : ∀ w, Sat b F w → w.cell? ⟨gg, off + j, none⟩ = some u := fun w H => by
 obtain ⟨A, c', hv, hl, _, _, _, hc⟩ := H.sl hk
 simp only [Value.slice.injEq, true_and] at hv
 obtain ⟨rfl, rfl⟩ := hv
 have hlt : j < cs.length := (List.getElem?_eq_some_iff.1 hj).1
 have h0 : 0 < n := by
  rcases Nat.eq_zero_or_pos n with h | h
  ·subst h; rw [hl] at hlt; omega
  ·exact h
 obtain ⟨bb, off', hA, _, hcell⟩ := hc h0
 cases hA
 rw [hcell j hlt, hj]
variable {k : Nat} {y dy tv : Nat} {zs : List Value} {oy : Oper}
end
end Go.Eng
namespace Go.Eng
open Go Go.RowKit

def cat : List (List Value) → List Value
 | [] => []
 | [a] => a
 | a :: l => a ++ cat l
theorem cat_cons (a : List Value) (l : List (List Value)) : cat (a :: l) = a ++ cat l := by
 cases l with
 | nil => simp [cat]
 | cons b l => rfl
def segs (zs : List Value) : List (Nat × Nat) → List (List Value)
 | [] => []
 | (o, n) :: l => (zs.drop o).take n :: segs zs l
def setS : List (List Value) → Nat → List Value → List (List Value)
 | [], _, _ => []
 | _ :: l, 0, c => c :: l
 | a :: l, k + 1, c => a :: setS l k c
def okPl : Nat → List (Nat × Nat) → Nat → Bool
 | o, [], t => Nat.beq o t
 | o, (q, n) :: l, t => Nat.beq o q && okPl (o + n) l t
def zc : Value → List Value
 | .agg ⟨cs⟩ => cs
 | v => [v]
theorem zc_eq (v : Value) : v.cells.toList = zc v := by cases v <;> rfl
def condS (pl : List (Nat × Nat)) : List (Nat × Value) → Prop
 | [] => True
 | (k, v) :: l => (match nth pl k with | some p => (zc v).length = p.2 | none => False) ∧ condS pl l
def fillS (s : List (List Value)) : List (Nat × Value) → List (List Value)
 | [] => s
 | (k, v) :: l => fillS (setS s k (zc v)) l
def fits : Nat → List (Nat × Nat) → List (List Value) → Prop
 | _, [], [] => True
 | o, (q, n) :: pl, a :: s => o = q ∧ a.length = n ∧ fits (o + n) pl s
 | _, _, _ => False
theorem fits_segs {zs : List Value} : ∀ {pl : List (Nat × Nat)} {o t : Nat}, okPl o pl t = true → t = zs.length → fits o pl (segs zs pl) ∧ cat (segs zs pl) = zs.drop o
 | [], o, t, h, ht => by
  have := Nat.eq_of_beq_eq_true h
  exact ⟨trivial, by rw [segs, cat, List.drop_of_length_le (by omega)]⟩
 | (q, n) :: pl, o, t, h, ht => by
  simp only [okPl, Bool.and_eq_true] at h
  obtain ⟨h1, h2⟩ := h
  have := Nat.eq_of_beq_eq_true h1
  subst this
  obtain ⟨i1, i2⟩ := fits_segs h2 ht
  have hle : o + n ≤ t := by
   clear i1 i2 ht
   revert h2
   generalize o + n = m
   induction pl generalizing m with
   | nil => intro h2; have := Nat.eq_of_beq_eq_true h2; omega
   | cons p pl ih =>
    intro h2
    obtain ⟨q, n'⟩ := p
    simp only [okPl, Bool.and_eq_true] at h2
    have := ih _ h2.2; omega
  refine ⟨⟨rfl, by rw [List.length_take, List.length_drop]; omega, i1⟩, ?_⟩
  rw [segs, cat_cons, i2, ← List.drop_drop, List.take_append_drop]
theorem fits_set : ∀ {pl : List (Nat × Nat)} {s : List (List Value)} {o k : Nat} {p : Nat × Nat} {c : List Value}, fits o pl s → nth pl k = some p → c.length = p.2 → fits o pl (setS s k c) ∧ o ≤ p.1 ∧ spl (cat s) (p.1 - o) c = cat (setS s k c) ∧ (p.1 - o) + p.2 ≤ (cat s).length
 | [], _, _, _, _, _, _, h, _ => by simp [nth] at h
 | (q, n) :: pl, [], _, _, _, _, h, _, _ => h.elim
 | (q, n) :: pl, a :: s, o, 0, p, c, h, hp, hc => by
  obtain ⟨rfl, h2, h3⟩ := h
  simp only [nth, Option.some.injEq] at hp
  subst hp
  dsimp only at hc
  refine ⟨⟨rfl, hc, h3⟩, Nat.le_refl _, ?_, ?_⟩
  ·simp only [setS, cat_cons, spl, Nat.sub_self, List.take_zero, List.nil_append, Nat.zero_add]
   rw [hc, ← h2, List.drop_left]
  ·rw [cat_cons, List.length_append, h2, Nat.sub_self]; dsimp only; omega
 | (q, n) :: pl, a :: s, o, k + 1, p, c, h, hp, hc => by
  obtain ⟨rfl, h2, h3⟩ := h
  simp only [nth] at hp
  obtain ⟨i1, i2, i3, i4⟩ := fits_set h3 hp hc
  refine ⟨⟨rfl, h2, i1⟩, by omega, ?_, ?_⟩
  ·simp only [setS, cat_cons, ← i3, spl]
   have e : p.1 - o = a.length + (p.1 - (o + n)) := by omega
   rw [e, List.take_append, List.take_of_length_le (by omega), Nat.add_sub_cancel_left, Nat.add_assoc, List.drop_append, List.drop_of_length_le (by omega), List.nil_append, Nat.add_sub_cancel_left, List.append_assoc]
  ·rw [cat_cons, List.length_append]; omega
theorem fill_segs {pl : List (Nat × Nat)} : ∀ {vs : List (Nat × Value)} {s : List (List Value)}, fits 0 pl s → condS pl vs → fillL (nth pl) (cat s) vs = some (cat (fillS s vs))
 | [], _, _, _ => rfl
 | (k, v) :: vs, s, h, hc => by
  obtain ⟨h1, h2⟩ := hc
  cases hp : nth pl k with
  | none => rw [hp] at h1; exact h1.elim
  | some p =>
   rw [hp] at h1
   dsimp only at h1
   obtain ⟨i1, _, i3, i4⟩ := fits_set h hp h1
   rw [Nat.sub_zero] at i3 i4
   have e1 : v.cells.size = p.2 := by rw [← h1, ← zc_eq, Array.length_toList]
   obtain ⟨off, size⟩ := p
   dsimp only at *
   have b1 : Nat.beq v.cells.size size = true := by rw [e1]; exact Nat.beq_refl _
   have b2 : Nat.ble (off + size) (cat s).length = true := Nat.ble_eq_true_of_le i4
   simp only [fillL, hp, b1, b2, fillS]
   rw [zc_eq, i3]
   exact fill_segs i1 h2
def pevB (tt : Nat → Option TI) (E : List (Nat × Value)) : Op → Option (Prop × Value)
 | .build t ⟨parts⟩ => match tt t with
  | some ⟨.struct _, _, _, .agg ⟨zs⟩, fs⟩ => match places tt fs, evp E parts with
   | some pl, some vs => match okPl 0 pl zs.length with
    | true => some (condS pl vs, .agg ⟨cat (fillS (segs zs pl) vs)⟩)
    | false => none
   | _, _ => none
  | _ => none
 | _ => none
section
variable {P : Program} {tt : Nat → Option TI} [TT P tt] {ro : Option Nat} {N : Nat} {l rest : List Oper} {Q : Exit → Act → World → Prop} {E : List (Nat × Value)} {ds : List Deferred} {b : World} {F F0 G : List SP} {fl : Oper → Bool} {kk : Nat}
 {d : Nat} {op : Op} {ty : TypeId} {pos : String} {aft : Array Edge} {g : Option (Nat × Bool)} {v : Value}
theorem pevB_sound {c : Prop} (h : pevB tt E op = some (c, v)) (hc : c) : Pu P E op ty v := by
 apply pevb_sound (tt := tt)
 unfold pevB at h
 split at h
 ·rename_i t parts
  split at h
  ·rename_i n s1 s2 zs fs h1
   split at h
   ·rename_i pl vs h2 h3
    split at h
    ·rename_i h4
     simp only [Option.some.injEq, Prod.mk.injEq] at h
     obtain ⟨rfl, rfl⟩ := h
     obtain ⟨f1, f2⟩ := fits_segs (zs := zs) h4 rfl
     have := fill_segs f1 hc
     rw [f2, List.drop_zero] at this
     simp only [pevb, h1, h2, h3, this]
    ·cases h
   ·cases h
  ·cases h
 ·cases h
theorem so_B {c : Prop} (hg : wants l E g = some true) (hx : pevB tt E op = some (c, v)) (hd : Nat.blt d N = true) (hc : c) (h : SO P ro N l rest Q ((d, v) :: E) ds b F) : SO P ro N l (⟨some d, op, ty, pos, aft, g⟩ :: rest) Q E ds b F := so_pu hg (pevB_sound hx hc) hd h
theorem sd_B {c : Prop} (hg : wants l E g = some true) (hx : pevB tt E op = some (c, v)) (hf : fl ⟨some d, op, ty, pos, aft, g⟩ = true) (hd : Nat.blt d N = true) (hc : c) (h : SD P fl ro N F0 l (kk + 1) rest Q ((d, v) :: E) ds b F) : SD P fl ro N F0 l kk (⟨some d, op, ty, pos, aft, g⟩ :: rest) Q E ds b F := sd_pu hg (pevB_sound hx hc) hf hd h
end
end Go.Eng
namespace Go.Eng
open Go Go.RowKit

def exP {S : Type} (p : S → Prop) (G : S → List SP) : SP := fun h => ∃ s, p s ∧ SatH (G s) h
section
variable {S : Type} {p : S → Prop} {G : S → List SP} {F : List SP} {b : World}
theorem exP_open {w : World} (H : Sat b (exP p G :: F) w) : ∃ s, p s ∧ Sat b (G s ++ F) w := by
 obtain ⟨K, a, b', c⟩ := H.mem
 obtain ⟨s, hs, hS⟩ := c 0 _ rfl
 refine ⟨s, hs, H.os, H.tape, H.output, ent_open _ ⟨K, a, b', fun i A hA => ?_⟩⟩
 cases i with
 | zero => cases hA; exact hS
 | succ i => exact c (i + 1) A hA
theorem ent_pack (s : S) (hs : p s) : Ent (G s ++ F) (exP p G :: F) := ent_close.trans (ent_set 0 rfl (fun _ hh => ⟨s, hs, hh⟩) rfl)
variable {P : Program} {f : FuncId} {args : List Value} {R R' : Value → List SP → Prop}
theorem SC.opn (h : ∀ s, p s → SC P f args b (G s ++ F) R) : SC P f args b (exP p G :: F) R := fun w H => by
 obtain ⟨s, hs, H'⟩ := exP_open H
 exact h s hs w H'
theorem SC.out (h : SC P f args b F R) (hr : ∀ v F', R v F' → ∃ G, Ent F' G ∧ R' v G) : SC P f args b F R' := fun w H => (h w H).mono fun _ _ ⟨v, F', h1, h2, h3⟩ => by
 obtain ⟨G, hG, hR⟩ := hr v F' h2
 exact ⟨v, G, h1, hR, h3.ent hG⟩
end
section
variable {S : Type} {p : S → Prop} {G : S → List SP}
variable {P : Program} {ro : Option Nat} {N : Nat} {l rest : List Oper} {Q : Exit → Act → World → Prop} {E : List (Nat × Value)} {ds : List Deferred} {b : World} {F : List SP} {e : Exit} {c : Code}
end
end Go.Eng
namespace Go.Eng
open Go Go.RowKit

section
variable {P : Program} {tt : Nat → Option TI} [TT P tt] {ro : Option Nat} {N : Nat} {l rest : List Oper} {Q : Exit → Act → World → Prop} {E : List (Nat × Value)} {ds : List Deferred} {b : World} {F F0 : List SP} {fl : Oper → Bool} {kk : Nat}
 {d : Nat} {op : Op} {ty : TypeId} {pos : String} {aft : Array Edge} {g : Option (Nat × Bool)}
end
end Go.Eng
namespace Go.Eng
open Go Go.RowKit

def ob (g : Nat) (o : Obj) : SP := fun h => h g = some o
section
variable {b w w' : World} {F G : List SP} {k g : Nat} {o o' : Obj} {A : SP}
theorem Sat.ob (H : Sat b F w) (hk : nth F k = some (ob g o)) : w.heap[g]? = some o := by
 obtain ⟨h1, l, hA⟩ := H.mem.get hk
 exact l g o hA
theorem Sat.newOb (H : Sat b F w) (o : Obj) : Sat b (Go.Eng.ob w.heap.size o :: F) (w.alloc o) :=
 H.new (Fr.alloc w o) (one_le (h := ph _) (heap_alloc_new w o)) (fun i hi => by rw [one_ne hi]; exact Nat.le_refl _) (one_at _ _)
theorem Sat.putPi {B : SP} (H : Sat b F w) (hk : nth F k = some A) (hA : ∀ h, A h → h g ≠ none) (hB : ∀ h, h g = some o' → B h) (hG : setF F k B = some G) : Sat b G (w.putObj g o') := by
 refine H.upd k hk (Fr.putObj w g o') (fun h1 l hh => ?_) hG
 have hg := hA h1 hh
 have hlt : g < w.heap.size := by
  cases hx : h1 g with
  | none => exact absurd hx hg
  | some o => exact ph_lt (l g o hx)
 exact ⟨fun i _ hi => by subst hi; exact hg, _, one_le (h := ph (w.putObj g o')) (World.putObj_heap_same hlt), hB _ (one_at g _), fun i hi => .inl (by rw [one_ne hi]; exact hg)⟩
theorem Sat.putOb (H : Sat b F w) (hk : nth F k = some (Go.Eng.ob g o)) (hG : setF F k (Go.Eng.ob g o') = some G) : Sat b G (w.putObj g o') :=
 H.putPi hk (fun h hh => by rw [show h g = _ from hh]; simp) (fun h hh => hh) hG
end

section
variable {P : Program} {tt : Nat → Option TI} [TT P tt] {ro : Option Nat} {N : Nat} {l rest : List Oper} {Q : Exit → Act → World → Prop} {E : List (Nat × Value)} {ds : List Deferred} {b : World} {F G : List SP}
 {d : Nat} {op : Op} {ty : TypeId} {pos : String} {aft : Array Edge} {g : Option (Nat × Bool)} {v : Value}
theorem so_rangeS {t : Nat} {x : Operand} {s : ByteArray} {i : TI} (hg : wants l E g = some true) (hop : op = .range t x) (ht : tt t = some i) (hi : i.desc = .string) (hx : ev E x = some (.string s)) (hd : Nat.blt d N = true)
  (h : ∀ g', SO P ro N l rest Q ((d, .pointer (some ⟨g', 0, none⟩)) :: E) ds b (ob g' (.stringIter s 0) :: F)) : SO P ro N l (⟨some d, op, ty, pos, aft, g⟩ :: rest) Q E ds b F := ⟨fun w H => by
 subst hop
 refine ow_ex hg ?_ hd ((h w.heap.size).1 _ (H.newOb _))
 intro ρ o hρ hop' _
 simp [execOp, hop', Instr.range, hρ _ _ hx, TT.run_und (P := P) ht (by rw [hi]; rfl), hi]⟩
theorem so_nextS {x : Operand} {s : ByteArray} {g' p : Nat} (k : Nat) (hg : wants l E g = some true) (hop : op = .next x true) (hx : ev E x = some (.pointer (some ⟨g', 0, none⟩))) (hF : nth F k = some (ob g' (.stringIter s p))) (hd : Nat.blt d N = true) (hlt : p < s.size)
  (hG : setF F k (ob g' (.stringIter s (p + (Utf8.decode s p).2))) = some G)
  (h : SO P ro N l rest Q ((d, .tuple ⟨[.bool true, .int .i64 (p : Int), .int .i32 ((Utf8.decode s p).1 : Int)]⟩) :: E) ds b G) : SO P ro N l (⟨some d, op, ty, pos, aft, g⟩ :: rest) Q E ds b F := ⟨fun w H => by
 subst hop
 have hh := H.ob hF
 refine ow_ex hg ?_ hd (h.1 _ (H.putOb hF hG))
 intro ρ o hρ hop' _
 simp [execOp, hop', Instr.next, hρ _ _ hx, getObj, setObj, Sem.run, hh, hlt, World.putObj, goInt]⟩
theorem so_nextSE {x : Operand} {s : ByteArray} {g' p : Nat} (k : Nat) (hg : wants l E g = some true) (hop : op = .next x true) (hx : ev E x = some (.pointer (some ⟨g', 0, none⟩))) (hF : nth F k = some (ob g' (.stringIter s p))) (hd : Nat.blt d N = true) (hle : s.size ≤ p)
  (h : SO P ro N l rest Q ((d, .tuple ⟨[.bool false]⟩) :: E) ds b F) : SO P ro N l (⟨some d, op, ty, pos, aft, g⟩ :: rest) Q E ds b F := ⟨fun w H => by
 subst hop
 have hh := H.ob hF
 refine ow_ex hg ?_ hd (h.1 _ H)
 intro ρ o hρ hop' _
 simp [execOp, hop', Instr.next, hρ _ _ hx, getObj, Sem.run, hh, Nat.not_lt.2 hle]⟩
end

section
variable {P : Program} {tt : Nat → Option TI} [TT P tt] {N : Nat} {l rest : List Oper} {Q : Exit → Act → World → Prop} {E : List (Nat × Value)} {ds : List Deferred} {b w : World} {F G : List SP}
 {d : Nat} {op : Op} {ty : TypeId} {pos : String} {aft : Array Edge} {g : Option (Nat × Bool)} {v : Value}
end
section
variable {P : Program} {tt : Nat → Option TI} [TT P tt] {N : Nat} {E : List (Nat × Value)} {b : World} {F G : List SP} {fn : Func} {R : Value → List SP → Prop} {f : FuncId} {c : Code} {args : List Value}
end

section
variable {P : Program} {ro : Option Nat} {N : Nat} {l rest : List Oper} {Q : Exit → Act → World → Prop} {E : List (Nat × Value)} {ds : List Deferred} {b : World} {F G : List SP}
 {d : Nat} {op : Op} {ty : TypeId} {pos : String} {aft : Array Edge} {g : Option (Nat × Bool)} {v : Value}
 {ok : List (List Value) → List Value → Prop} {J : List (List Value) → SP}
variable {m : Nat} {ps : Array Tmp} {asg body : Code} {R : Ending → World → Prop}
end
section
variable {P : Program} {N : Nat} {Q : Exit → Act → World → Prop} {E : List (Nat × Value)} {ds : List Deferred} {b : World} {F : List SP}
end
end Go.Eng
namespace Go.Eng
open Go Go.RowKit

section
variable {P : Program} {tt : Nat → Option TI} [TT P tt] {ro : Option Nat} {N : Nat} {l rest : List Oper} {Q : Exit → Act → World → Prop} {E : List (Nat × Value)} {ds : List Deferred} {b : World} {F F0 G : List SP} {fl : Oper → Bool} {kk : Nat}
 {d : Nat} {op : Op} {ty : TypeId} {pos : String} {aft : Array Edge} {g : Option (Nat × Bool)} {v : Value}
end
section
variable {b : World} {F G : List SP} {e sz n g off cap : Nat} {cs : List Value}
end
end Go.Eng
namespace Go.Eng
open Go Go.RowKit Go.WideMaps

theorem i64wf (x : Int) : (Lit.int .i64 x).wf = true ↔ I64 x := by
 have h1 : IntKind.i64.min = -9223372036854775808 := by decide
 have h2 : IntKind.i64.max = 9223372036854775807 := by decide
 simp [Lit.wf, h1, h2, I64]
def flC {α : Type} (f : α → List Value) : List α → List Value
 | [] => []
 | a :: l => f a ++ flC f l
section
variable {α : Type} {f : α → List Value} {l : List α} {sz : Nat}
theorem flC_app (a c : List α) : flC f (a ++ c) = flC f a ++ flC f c := by
 induction a with
 | nil => rfl
 | cons x a ih => simp only [List.cons_append, flC, ih, List.append_assoc]
theorem flC_len (h : ∀ a ∈ l, (f a).length = sz) : (flC f l).length = l.length * sz := by
 induction l with
 | nil => simp [flC]
 | cons x l ih =>
  have h1 := h x List.mem_cons_self
  have h2 := ih fun w hw => h w (List.mem_cons_of_mem _ hw)
  simp only [flC, List.length_append, h1, h2, List.length_cons, Nat.succ_mul]; omega
theorem flC_at (h : ∀ a ∈ l, (f a).length = sz) {i : Nat} (hi : i < l.length) {j : Nat} (hj : j < sz) : (flC f l)[i * sz + j]? = (f l[i])[j]? := by
 induction l generalizing i with
 | nil => simp at hi
 | cons x l ih =>
  have h1 := h x List.mem_cons_self
  cases i with
  | zero => simp only [flC, Nat.zero_mul, Nat.zero_add, List.getElem_cons_zero]; exact List.getElem?_append_left (by omega)
  | succ i =>
   simp only [flC, List.getElem_cons_succ]
   rw [List.getElem?_append_right (by rw [h1, Nat.succ_mul]; omega), h1, Nat.succ_mul, show i * sz + sz + j - sz = i * sz + j by omega]
   exact ih (fun w hw => h w (List.mem_cons_of_mem _ hw)) (by simpa using hi)
theorem flC_seg (h : ∀ a ∈ l, (f a).length = sz) {i : Nat} (hi : i < l.length) : ((flC f l).drop (i * sz)).take sz = f l[i] := by
 apply List.ext_getElem?
 intro j
 rw [List.getElem?_take, List.getElem?_drop]
 have h1 := h _ (List.getElem_mem hi)
 split
 ·rename_i hj; exact flC_at h hi hj
 ·rename_i hj; rw [List.getElem?_eq_none (by omega)]
theorem flC_set (h : ∀ a ∈ l, (f a).length = sz) {i : Nat} {x : α} (hx : (f x).length = sz) (hi : i < l.length) : spl (flC f l) (i * sz) (f x) = flC f (l.set i x) := by
 induction l generalizing i with
 | nil => simp at hi
 | cons y l ih =>
  have h1 := h y List.mem_cons_self
  cases i with
  | zero =>
   simp only [List.set_cons_zero, flC, spl, Nat.zero_mul, List.take_zero, List.nil_append, Nat.zero_add, hx]
   rw [List.drop_append_of_le_length (by omega), List.drop_of_length_le (by omega), List.nil_append]
  | succ i =>
   have := ih (fun w hw => h w (List.mem_cons_of_mem _ hw)) (by simpa using hi)
   simp only [List.set_cons_succ, flC, ← this, spl]
   rw [Nat.succ_mul, show i * sz + sz = (f y).length + i * sz by omega, List.take_length_add_append, show (f y).length + i * sz + (f x).length = (f y).length + (i * sz + (f x).length) by omega, List.drop_length_add_append, List.append_assoc]
theorem flC_one (h : ∀ a ∈ l, ∀ u ∈ f a, u.oneCell' = true) : ∀ u ∈ flC f l, u.oneCell' = true := by
 induction l with
 | nil => intro u hu; simp [flC] at hu
 | cons x l ih =>
  intro u hu
  rcases List.mem_append.1 hu with hu | hu
  ·exact h x List.mem_cons_self u hu
  ·exact ih (fun w hw => h w (List.mem_cons_of_mem _ hw)) u hu
theorem sl_cell {w : World} {bk off n c j : Nat} {cs : List Value} (h : SL w sz (.slice (some ⟨bk, off, none⟩) n c) n cs) (hj : j < cs.length) : w.cell? ⟨bk, off + j, none⟩ = cs[j]? := by
 obtain ⟨A, c', hv, hl, _, _, _, hc⟩ := h
 cases hv
 obtain ⟨b', o', hA, _, hcc⟩ := hc (by
  rcases Nat.eq_zero_or_pos n with h0 | h0
  ·subst h0; simp at hl; subst hl; simp at hj
  ·exact h0)
 cases hA
 exact hcc j hj
theorem fl_cell {w : World} {bk off c i j : Nat} (h : SL w sz (.slice (some ⟨bk, off, none⟩) l.length c) l.length (flC f l)) (hf : ∀ a ∈ l, (f a).length = sz) (hi : i < l.length) (hj : j < sz) : w.cell? ⟨bk, off + i * sz + j, none⟩ = (f l[i])[j]? := by
 rw [Nat.add_assoc, sl_cell h, flC_at hf hi hj]
 rw [flC_len hf]
 have : (i + 1) * sz ≤ l.length * sz := Nat.mul_le_mul_right _ hi
 rw [Nat.succ_mul] at this; omega
end
theorem segO_front {l : List Value} (m : List Value) {n : Nat} (h : l.length = n) : segO (l ++ m) 0 n = some l := by
 subst h
 induction l with
 | nil => cases m <;> rfl
 | cons a l ih => simp only [List.cons_append, List.length_cons, segO, ih]
theorem flat_fl {α β : Type} {g : α → β} {f : β → List Value} : ∀ {ess : List (List Value)} {xs : List α}, ess.length = xs.length → (∀ (i : Nat) e a, ess[i]? = some e → xs[i]? = some a → e = f (g a)) → ess.flatten = flC f (xs.map g)
 | [], [], _, _ => rfl
 | [], _ :: _, h, _ => by simp at h
 | _ :: _, [], h, _ => by simp at h
 | e :: ess, a :: xs, h, hh => by
  rw [List.flatten_cons, hh 0 e a rfl rfl, flat_fl (by simpa using h) fun i e a h1 h2 => hh (i + 1) e a h1 h2]; rfl
theorem rdL_flat {α β : Type} {R : Rdg α} {g : α → β} {f : β → List Value} {p : β → Prop} {W : World} (hR : ∀ cs x, R W cs x → cs = f (g x) ∧ p (g x)) {sz : Nat} {cs : List Value} {x : Value × List α} (h : rdL sz R W cs x) : cs = [x.1] ∧ SL W sz x.1 (x.2.map g).length (flC f (x.2.map g)) ∧ ∀ y ∈ x.2.map g, p y := by
 obtain ⟨hv, ess, e1, e2, e3, e4⟩ := h
 have hf := flat_fl (f := f) (g := g) e1 fun i e a h1 h2 => (hR e a (e4 i e a h1 h2)).1
 rw [hf] at e3
 refine ⟨hv, by rw [List.length_map]; exact e3, fun y hy => ?_⟩
 obtain ⟨a, ha, rfl⟩ := List.mem_map.1 hy
 obtain ⟨i, hi, rfl⟩ := List.mem_iff_getElem.1 ha
 exact (hR _ _ (e4 i _ _ (List.getElem?_eq_getElem (by omega)) (List.getElem?_eq_getElem hi))).2
theorem rdI_list {W : World} {k : IntKind} {cs : List Value} {x : Value × List Int} (h : rdL 1 (rdI k) W cs x) : cs = [x.1] ∧ VL (Value.int k) W x.1 x.2 ∧ ∀ n ∈ x.2, (Lit.int k n).wf = true := by
 obtain ⟨h1, h2, h3⟩ := rdL_flat (g := id) (f := fun n => [Value.int k n]) (p := fun n => (Lit.int k n).wf = true) (fun cs x hx => ⟨hx.1, hx.2⟩) h
 rw [List.map_id] at h2 h3
 have e : ∀ l : List Int, flC (fun x : Int => [Value.int k x]) l = l.map (Value.int k) := fun l => by
  induction l with
  | nil => rfl
  | cons x l ih => simp only [flC, ih]; rfl
 rw [e] at h2
 exact ⟨h1, h2, h3⟩
theorem i64wf' {x : Int} (h : (Lit.int .i64 x).wf = true) : I64 x := (i64wf x).1 h
theorem cut_eq {n : Nat} {cs a c : List Value} (h1 : cs.take n = a) (h2 : cs.drop n = c) : cs = a ++ c := by rw [← h1, ← h2, List.take_append_drop]
end Go.Eng
namespace Go.Eng
open Go Go.RowKit

section
variable {P : Program} {ro : Option Nat} {l : List Oper} {Q : Exit → Act → World → Prop} {S : World → Prop} {fl : Oper → Bool}
end
section
variable {P : Program} {ro : Option Nat} {l : List Oper} {Q : Exit → Act → World → Prop} {N : Nat} {E : List (Nat × Value)} {ds : List Deferred} {w : World} {b : World} {F : List SP} {fl : Oper → Bool}
end
end Go.Eng
namespace Go.Eng
open Go Go.RowKit

section
variable {P : Program} {tt : Nat → Option TI} [TT P tt] {N : Nat} {E : List (Nat × Value)} {b : World} {F G : List SP} {fn : Func} {R : Value → List SP → Prop}
end

section
variable {P : Program} {tt : Nat → Option TI} [TT P tt] {ro : Option Nat} {N : Nat} {l rest : List Oper} {Q : Exit → Act → World → Prop} {E : List (Nat × Value)} {ds : List Deferred} {b : World} {F G : List SP}
 {d : Nat} {op : Op} {ty : TypeId} {pos : String} {aft : Array Edge} {g : Option (Nat × Bool)} {v : Value}
theorem zeroCells_one {zs : Array Value} (h : ∀ u ∈ zs.toList, u.oneCell' = true) (n : Nat) : ∀ u ∈ (Builtin.zeroCells zs n).toList, u.oneCell' = true := by
 intro u hu
 unfold Builtin.zeroCells at hu
 simp only [Array.toList_map, List.mem_map, Array.mem_toList_iff, Array.mem_range] at hu
 obtain ⟨i, hi, rfl⟩ := hu
 have h0 : 0 < zs.size := by
  rcases Nat.eq_zero_or_pos zs.size with h0 | h0
  ·rw [h0, Nat.mul_zero] at hi; omega
  ·exact h0
 have hlt := Nat.mod_lt i h0
 rw [getElem!_pos zs _ hlt]
 exact h _ (by simp)
theorem ex_clearRow {t e g' off n cap j sz c' s1 s2 : Nat} {z1 : Value} {f1 : List (Nat × Nat)} {i : TI} {zs : List Value} {A' : Option Addr} {x : Operand} {cs : List Value} (k : Nat) (ht : tt t = some ⟨.slice e, s1, s2, z1, f1⟩) (he : tt e = some i) (hz : zlist i.zero = some zs) (hsz : Nat.beq zs.length sz = true) (hz1 : zs.all (·.oneCell') = true)
  (hx : ev E x = some (.slice A' (n - j) c')) (hA : j < n → A' = some ⟨g', off + j * sz, none⟩) (hj : j ≤ n) (hF : nth F k = some (row e sz (.slice (some ⟨g', off, none⟩) n cap) n cs)) (hG : setF F k (row e sz (.slice (some ⟨g', off, none⟩) j cap) j (cs.take (j * sz))) = some G) :
  ∀ w, Sat b F w → ∃ w' u, Ex P E (.call ⟨.builtin .clear, ⟨[x]⟩, ⟨[t]⟩⟩) ty w u w' ∧ Sat b G w' := fun w H => by
 have hs := Nat.eq_of_beq_eq_true hsz
 subst hs
 have hzc := zlist_eq hz
 have hzs : i.zero.cells.size = zs.length := by rw [← hzc, Array.length_toList]
 have hrun : ∃ w' u, (Builtin.clear_ #[t] ty #[.slice A' (n - j) c']).run P w = .ok u w' ∧ Sat b G w' := by
  rcases Nat.lt_or_ge j n with h | h
  ·obtain rfl := hA h
   obtain ⟨h1, l, hAA⟩ := H.mem.get hF
   obtain ⟨hl, ⟨hv, _⟩ | ⟨g2, off2, cap2, cur, hv, hh, h2, h3, h4, h5⟩⟩ := hAA
   ·cases hv
   simp only [Value.slice.injEq, Option.some.injEq, Addr.mk.injEq, true_and, and_true] at hv
   obtain ⟨⟨rfl, rfl⟩, rfl⟩ := hv
   have hw : w.heap[g']? = some (.cells cur e (0, 0)) := l _ _ hh
   have hcl : n * zs.length ≤ cap * zs.length := Nat.mul_le_mul_right _ h2
   have hjn : j * zs.length + (n - j) * zs.length = n * zs.length := by rw [← Nat.add_mul]; congr 1; omega
   have hzl : (Builtin.zeroCells i.zero.cells (n - j)).toList.length = (n - j) * zs.length := by simp [Builtin.zeroCells, hzs]
   have hst := run_storeCells_at P g' (off + j * zs.length) e (Builtin.zeroCells i.zero.cells (n - j)).toList 0 cur w hw (by omega) (zeroCells_one (by rw [hzc]; exact fun u hu => List.all_eq_true.1 hz1 u hu) _)
   simp only [Nat.add_zero] at hst
   obtain ⟨m, hm⟩ : ∃ m, n - j = m + 1 := ⟨n - j - 1, by omega⟩
   obtain ⟨rw1, hrw⟩ : ∃ R : List Value, R = cur.toList.take (off + j * zs.length) ++ (Builtin.zeroCells i.zero.cells (n - j)).toList ++ cur.toList.drop (off + j * zs.length + (Builtin.zeroCells i.zero.cells (n - j)).toList.length) := ⟨_, rfl⟩
   rw [← hrw] at hst
   refine ⟨w.setRow g' rw1.toArray, .tuple #[], ?_, H.upd (B := row e zs.length (.slice (some ⟨g', off, none⟩) j cap) j (cs.take (j * zs.length))) k hF (Fr.setRow w g' _) (fun h4' l4 hA4 => ?_) hG⟩
   ·have hzr := TT.run_zero (P := P) he w
    rw [hm] at hst ⊢
    simp [Builtin.clear_, run_underlying (TT.und (P := P) t _ ht rfl), hzr, hst]
   ·have h4g : h4' g' = some (.cells cur e (0, 0)) := by
     rcases hA4.2 with ⟨hv4, _⟩ | ⟨g5, off5, cap5, cur5, hv5, hh5, _⟩
     ·cases hv4
     ·simp only [Value.slice.injEq, Option.some.injEq, Addr.mk.injEq] at hv5
      obtain ⟨⟨rfl, _⟩, _⟩ := hv5
      have := (l4 _ _ hh5).symm.trans hw
      rw [hh5]; exact this
    refine ⟨fun q _ hq => by subst hq; rw [h4g]; simp, _, one_le (h := ph _) (setRow_heap w g' cur _ e _ hw), ⟨by rw [List.length_take, hl]; exact Nat.min_eq_left (Nat.mul_le_mul_right _ hj), .inr ⟨g', off, cap, _, rfl, one_at g' _, by omega, h3, ?_, ?_⟩⟩, fun q hq => .inl (by rw [one_ne hq, h4g]; simp)⟩
    ·rw [hrw]
     simp only [List.size_toArray, List.length_append, List.length_take, List.length_drop, Array.length_toList]
     omega
    ·have hcur : cur.toList.length = cur.size := Array.length_toList
     rw [hrw]
     show ((cur.toList.take (off + j * zs.length) ++ _ ++ _).drop off).take (j * zs.length) = _
     rw [List.append_assoc, List.drop_append_of_le_length (by rw [List.length_take]; omega), List.drop_take, Nat.add_sub_cancel_left, List.take_append_of_le_length (by rw [List.length_take, List.length_drop]; omega), List.take_take, Nat.min_self, ← h5, List.take_take]
     congr 1; omega
  ·have hjn : n - j = 0 := by omega
   rw [hjn]
   refine ⟨w, .tuple #[], by cases A' <;> simp [Builtin.clear_, run_underlying (TT.und (P := P) t _ ht rfl)], ?_⟩
   exact H.ent (ent_row_take hj k hF hG)
 obtain ⟨w', u, h1, h2⟩ := hrun
 refine ⟨w', u, ?_, h2⟩
 intro ρ o hρ ho hty
 subst hty
 simp only [execOp, ho, resolve, invoke, builtin, Sem.run_bind, Sem.run_pure, Result.andThen]
 have e1 : Array.map ρ #[x] = #[.slice A' (n - j) c'] := by simp [hρ _ _ hx]
 simp only [e1, h1]
theorem so_clearRow {t e g' off n cap j sz c' s1 s2 : Nat} {z1 : Value} {f1 : List (Nat × Nat)} {i : TI} {zs : List Value} {A' : Option Addr} {x : Operand} {cs : List Value} (k : Nat) (hg : wants l E g = some true) (hop : op = .call ⟨.builtin .clear, ⟨[x]⟩, ⟨[t]⟩⟩) (ht : tt t = some ⟨.slice e, s1, s2, z1, f1⟩) (he : tt e = some i) (hz : zlist i.zero = some zs) (hsz : Nat.beq zs.length sz = true) (hz1 : zs.all (·.oneCell') = true)
  (hx : ev E x = some (.slice A' (n - j) c')) (hF : nth F k = some (row e sz (.slice (some ⟨g', off, none⟩) n cap) n cs)) (hG : setF F k (row e sz (.slice (some ⟨g', off, none⟩) j cap) j (cs.take (j * sz))) = some G) (hA : j < n → A' = some ⟨g', off + j * sz, none⟩) (hj : j ≤ n)
  (h : SO P ro N l rest Q E ds b G) : SO P ro N l (⟨none, op, ty, pos, aft, g⟩ :: rest) Q E ds b F := by
 subst hop; exact so_exn hg (ex_clearRow k ht he hz hsz hz1 hx hA hj hF hG) h
end

section
variable {P : Program} {tt : Nat → Option TI} [TT P tt] {ro : Option Nat} {N : Nat} {l rest : List Oper} {Q : Exit → Act → World → Prop} {E : List (Nat × Value)} {ds : List Deferred} {b : World} {F F0 G : List SP} {fl : Oper → Bool} {kk : Nat}
 {d : Nat} {op : Op} {ty : TypeId} {pos : String} {aft : Array Edge} {g : Option (Nat × Bool)} {v : Value}
theorem so_exv (hg : wants l E g = some true) (hd : Nat.blt d N = true) (hx : ∀ w, Sat b F w → ∃ w', Ex P E op ty w v w' ∧ Sat b G w') (h : SO P ro N l rest Q ((d, v) :: E) ds b G) : SO P ro N l (⟨some d, op, ty, pos, aft, g⟩ :: rest) Q E ds b F := ⟨fun w H => by
 obtain ⟨w', h2, h3⟩ := hx w H
 exact ow_ex hg h2 hd (h.1 w' h3)⟩
end
end Go.Eng
namespace Go.Eng
open Go Go.RowKit

section
variable {P : Program} {tt : Nat → Option TI} [TT P tt] {fl : Oper → Bool} {ro : Option Nat} {N d kk : Nat} {l rest : List Oper} {Q : Exit → Act → World → Prop} {E : List (Nat × Value)} {ds : List Deferred} {b : World} {F F0 : List SP} {op : Op} {ty : TypeId} {pos : String} {aft : Array Edge} {g : Option (Nat × Bool)} {v u : Value}
end
end Go.Eng
namespace Go.Eng
open Go Go.RowKit

inductive OT where
 | nil
 | op (i : Nat) (t : OT)
 | two (i : Nat) (B : List Nat) (j : Nat) (t : OT)
def OT.ids : OT → List Nat
 | .nil => []
 | .op i t => i :: t.ids
 | .two i B j t => i :: (B ++ j :: t.ids)
def OT.pre : List Nat → OT → OT
 | [], t => t
 | i :: L, t => .op i (OT.pre L t)
theorem OT.ids_pre (t : OT) : ∀ L : List Nat, (OT.pre L t).ids = L ++ t.ids
 | [] => rfl
 | i :: L => by simp only [OT.pre, OT.ids, OT.ids_pre t L, List.cons_append]
def OT.rm (z : Nat) : OT → OT
 | .nil => .nil
 | .op x t => if x = z then t else .op x (t.rm z)
 | .two i B j t => if z ∈ B then .two i (B.erase z) j t else .two i B j (t.rm z)

section
variable {P : Program} {ro : Option Nat} {l : List Oper} {Q Q' : Exit → Act → World → Prop} {S : World → Prop} {fl : Oper → Bool}

def TxT (P : Program) (fl : Oper → Bool) (ro : Option Nat) (l : List Oper) (S : World → Prop) (Q : Exit → Act → World → Prop) : OT → Act → World → Prop
 | .nil => fun a w => Q .normal a w
 | .op i t => fun a w => Tx P fl ro l S (fun _ => TxT P fl ro l S Q t) [i] a w
 | .two i B j t => fun a w => Tx P fl ro l S (fun _ => TxT P fl ro l S Q t) (i :: (B ++ [j])) a w ∧ Tx P fl ro l S (fun _ => TxT P fl ro l S Q t) (B ++ [j, i]) a w
theorem TxT_pre (t : OT) : ∀ L : List Nat, TxT P fl ro l S Q (OT.pre L t) = Tx P fl ro l S (fun _ => TxT P fl ro l S Q t) L
 | [] => rfl
 | i :: L => by
  funext a w
  simp only [OT.pre, TxT]
  rw [TxT_pre t L]; rfl
theorem Tx.firstQ (hns : ∀ (i : Nat) (o : Oper), l[i]? = some o → noSel o = true) {i : Nat} {oi : Oper} (hi : l[i]? = some oi)
  (hQ : ∀ a w, S w → Q .normal a w → ∃ v, Fl P l S oi a v ∧ Q' .normal (a.put oi.dst v) w) :
  ∀ (R : List Nat) (a : Act) (w : World), (∀ r ∈ R, ∀ p : Oper, l[(r : Nat)]? = some p → Apart l p oi) → S w → Tx P fl ro l S Q R a w →
   ∃ v, Fl P l S oi a v ∧ Tx P fl ro l S Q' R (a.put oi.dst v) w := by
 intro R
 induction R with
 | nil => intro a w _ hS h; exact hQ a w hS h
 | cons r R1 ih =>
  intro a w hap hS h
  obtain ⟨p, hp, hw, hn⟩ := h
  have hapr := hap r List.mem_cons_self p hp
  have hap' : ∀ r ∈ R1, ∀ p : Oper, l[(r : Nat)]? = some p → Apart l p oi := fun r hr => hap r (List.mem_cons_of_mem _ hr)
  have hsp := hns _ _ hp
  have hsi := hns _ _ hi
  cases hwant : Region.wanted p (yielded l.toArray a.tmps) with
  | false =>
   obtain ⟨v, hv, ht⟩ := ih _ w hap' hS (hn hwant)
   refine ⟨v, (Fl.put hsi hapr).1 hv, p, hp, fun hc => ?_, fun _ => ?_⟩
   ·rw [want_put hapr.symm, hwant] at hc; cases hc
   ·rw [put_put hapr.symm]; exact ht
  | true =>
   rcases hw hwant with ⟨hfp, u, hu, ht0⟩ | ⟨hfp, he⟩
   ·obtain ⟨v, hv, ht⟩ := ih _ w hap' hS ht0
    refine ⟨v, (Fl.put hsi hapr).1 hv, p, hp, fun _ => .inl ⟨hfp, u, ?_, ?_⟩, fun hc => ?_⟩
    ·rw [run_put hsp hapr.symm]; exact hu
    ·rw [put_put hapr.symm]; exact ht
    ·rw [want_put hapr.symm, hwant] at hc; cases hc
   ·obtain ⟨u0, w0, hS0, ht0⟩ := he.some
    obtain ⟨v, hv, _⟩ := ih _ w0 hap' hS0 ht0
    have hv := (Fl.put hsi hapr).1 hv
    refine ⟨v, hv, p, hp, fun _ => .inr ⟨hfp, ?_⟩, fun hc => ?_⟩
    ·rw [eff_put hsp hapr.symm]
     refine he.mono ?_
     rintro u w' ⟨hS', ht'⟩
     obtain ⟨v', hv', ht''⟩ := ih _ w' hap' hS' ht'
     have hv' := (Fl.put hsi hapr).1 hv'
     have := Fl.unique hS' hv hv'
     subst this
     refine ⟨hS', ?_⟩
     rw [put_put hapr.symm]; exact ht''
    ·rw [want_put hapr.symm, hwant] at hc; cases hc
def Ov (P : Program) (ro : Option Nat) (l : List Oper) (S : World → Prop) (oi : Oper) (K : Act → World → Prop) (a : Act) (w : World) : Prop :=
 (Region.wanted oi (yielded l.toArray a.tmps) = true → Eff P ro oi a w fun v w' => S w' ∧ K (a.put oi.dst v) w') ∧
 (Region.wanted oi (yielded l.toArray a.tmps) = false → K (a.put oi.dst undef) w)
theorem Tx.overQ (hns : ∀ (i : Nat) (o : Oper), l[i]? = some o → noSel o = true) {i : Nat} {oi : Oper} (hi : l[i]? = some oi)
  (hQ : ∀ a w, Q .normal a w → Ov P ro l S oi (Q' .normal) a w) :
  ∀ (R : List Nat) (a : Act) (w : World), (∀ r ∈ R, ∀ p : Oper, l[(r : Nat)]? = some p → Apart l p oi ∧ fl p = true) → Tx P fl ro l S Q R a w → Ov P ro l S oi (Tx P fl ro l S Q' R) a w := by
 intro R
 induction R with
 | nil => intro a w _ h; exact hQ a w h
 | cons r R1 ih =>
  intro a w hap h
  obtain ⟨p, hp, hw, hn⟩ := h
  obtain ⟨hapr, hfp⟩ := hap r List.mem_cons_self p hp
  have hap' : ∀ r ∈ R1, ∀ p : Oper, l[(r : Nat)]? = some p → Apart l p oi ∧ fl p = true := fun r hr => hap r (List.mem_cons_of_mem _ hr)
  have hsp := hns _ _ hp
  have hsi := hns _ _ hi
  have key : ∃ u, Fl P l S p a u ∧ Tx P fl ro l S Q R1 (a.put p.dst u) w := by
   cases hwant : Region.wanted p (yielded l.toArray a.tmps) with
   | false => exact ⟨undef, ⟨fun hc => (by rw [hwant] at hc; cases hc), fun _ => rfl⟩, hn hwant⟩
   | true =>
    rcases hw hwant with ⟨_, u, hu, ht0⟩ | ⟨hff, _⟩
    ·exact ⟨u, ⟨fun _ => hu, fun hc => (by rw [hwant] at hc; cases hc)⟩, ht0⟩
    ·rw [hfp] at hff; cases hff
  obtain ⟨u, hu, ht⟩ := key
  obtain ⟨h1, h2⟩ := ih _ w hap' ht
  rw [want_put hapr] at h1 h2
  have back : ∀ v w', Tx P fl ro l S Q' R1 ((a.put p.dst u).put oi.dst v) w' → Tx P fl ro l S Q' (r :: R1) (a.put oi.dst v) w' := by
   intro v w' ht'
   rw [← put_put hapr.symm] at ht'
   have hu' : Fl P l S p (a.put oi.dst v) u := (Fl.put hsp hapr.symm).2 hu
   refine ⟨p, hp, fun hc => .inl ⟨hfp, u, hu'.1 hc, ht'⟩, fun hc => ?_⟩
   have := hu'.2 hc
   subst this
   exact ht'
  refine ⟨fun hwi => ?_, fun hwi => back _ _ (h2 hwi)⟩
  have he := h1 hwi
  rw [eff_put hsi hapr] at he
  exact he.mono fun v w' ⟨hS', ht'⟩ => ⟨hS', back _ _ ht'⟩

def Ap (l : List Oper) (x z : Nat) : Prop := ∀ p q : Oper, l[x]? = some p → l[z]? = some q → Apart l p q
def Un (fl : Oper → Bool) (l : List Oper) (x z : Nat) : Prop := x ∈ ancs l z ∨ (Ap l x z ∧ ∀ p q : Oper, l[x]? = some p → l[z]? = some q → fl p = true ∨ fl q = true)
def IsFl (fl : Oper → Bool) (l : List Oper) (x : Nat) : Prop := ∀ p : Oper, l[x]? = some p → fl p = true
def NoFl (fl : Oper → Bool) (l : List Oper) (x : Nat) : Prop := ∀ p : Oper, l[x]? = some p → fl p = false
def Good (fl : Oper → Bool) (l : List Oper) : OT → Prop
 | .nil => True
 | .op x t => (∀ y ∈ t.ids, Un fl l x y) ∧ Good fl l t
 | .two i B j t => (∀ y ∈ t.ids, Un fl l i y ∧ Un fl l j y ∧ ∀ b ∈ B, Un fl l b y) ∧ (∀ b ∈ B, IsFl fl l b ∧ Ap l i b ∧ Un fl l b j) ∧ B.Pairwise (Un fl l) ∧ Ap l i j ∧ NoFl fl l i ∧ NoFl fl l j ∧ Good fl l t
theorem Ap.symm {x z : Nat} (h : Ap l x z) : Ap l z x := fun p q hp hq => (h q p hq hp).symm
theorem good_pre {t : OT} (ht : Good fl l t) : ∀ L : List Nat, L.Pairwise (Un fl l) → (∀ x ∈ L, ∀ y ∈ t.ids, Un fl l x y) → Good fl l (OT.pre L t)
 | [], _, _ => ht
 | x :: L, hp, hx => by
  rw [List.pairwise_cons] at hp
  refine ⟨fun y hy => ?_, good_pre ht L hp.2 fun x hx' => hx x (List.mem_cons_of_mem _ hx')⟩
  rw [OT.ids_pre] at hy
  rcases List.mem_append.1 hy with hy | hy
  ·exact hp.1 y hy
  ·exact hx x List.mem_cons_self y hy
theorem ids_rm {z : Nat} {oz : Oper} (hz : l[z]? = some oz) (hf : fl oz = true) : ∀ {t : OT}, Good fl l t → (t.rm z).ids = t.ids.erase z
 | .nil, _ => rfl
 | .op x t, h => by
  simp only [OT.rm, OT.ids, List.erase_cons]
  by_cases hx : x = z
  ·subst hx; simp
  ·rw [if_neg hx]
   have : (x == z) = false := by simpa using hx
   rw [this]
   simp only [OT.ids, ids_rm hz hf h.2, Bool.false_eq_true, if_false]
 | .two i B j t, h => by
  obtain ⟨_, _, _, _, hi, hj, hg⟩ := h
  have hzi : (i == z) = false := by
   simp only [beq_eq_false_iff_ne]
   intro e; subst e; have := hi _ hz; rw [hf] at this; cases this
  have hzj : (j == z) = false := by
   simp only [beq_eq_false_iff_ne]
   intro e; subst e; have := hj _ hz; rw [hf] at this; cases this
  simp only [OT.rm, OT.ids, List.erase_cons, hzi, Bool.false_eq_true, if_false]
  by_cases hb : z ∈ B
  ·rw [if_pos hb, List.erase_append_left _ hb]; rfl
  ·rw [if_neg hb, List.erase_append_right _ hb, List.erase_cons, hzj]
   simp only [OT.ids, ids_rm hz hf hg, Bool.false_eq_true, if_false]
theorem good_rm {z : Nat} {oz : Oper} (hz : l[z]? = some oz) (hf : fl oz = true) : ∀ {t : OT}, Good fl l t → Good fl l (t.rm z)
 | .nil, _ => trivial
 | .op x t, h => by
  simp only [OT.rm]
  by_cases hx : x = z
  ·rw [if_pos hx]; exact h.2
  ·rw [if_neg hx]
   refine ⟨fun y hy => h.1 y ?_, good_rm hz hf h.2⟩
   rw [ids_rm hz hf h.2] at hy
   exact List.mem_of_mem_erase hy
 | .two i B j t, h => by
  obtain ⟨h1, h2, h3, h4, hi, hj, hg⟩ := h
  simp only [OT.rm]
  by_cases hb : z ∈ B
  ·rw [if_pos hb]
   exact ⟨fun y hy => ⟨(h1 y hy).1, (h1 y hy).2.1, fun b hb' => (h1 y hy).2.2 b (List.mem_of_mem_erase hb')⟩, fun b hb' => h2 b (List.mem_of_mem_erase hb'), h3.sublist List.erase_sublist, h4, hi, hj, hg⟩
  ·rw [if_neg hb]
   refine ⟨fun y hy => h1 y ?_, h2, h3, h4, hi, hj, good_rm hz hf hg⟩
   rw [ids_rm hz hf hg] at hy
   exact List.mem_of_mem_erase hy
theorem Un.apart {x z : Nat} {p q : Oper} (h : Un fl l x z) (hn : x ∉ ancs l z) (hp : l[x]? = some p) (hq : l[z]? = some q) : Apart l p q ∧ (fl p = true ∨ fl q = true) := by
 rcases h with h | ⟨h1, h2⟩
 ·exact absurd h hn
 ·exact ⟨h1 p q hp hq, h2 p q hp hq⟩
theorem TxT.first (hns : ∀ (i : Nat) (o : Oper), l[i]? = some o → noSel o = true) {z : Nat} {oz : Oper} (hz : l[z]? = some oz) (hf : fl oz = true) : ∀ {t : OT}, Good fl l t → t.ids.Nodup → z ∈ t.ids → (∀ x ∈ t.ids, x ∉ ancs l z) →
  ∀ (a : Act) (w : World), S w → TxT P fl ro l S Q t a w → ∃ v, Fl P l S oz a v ∧ TxT P fl ro l S Q (t.rm z) (a.put oz.dst v) w
 | .nil, _, _, h, _, _, _, _, _ => by cases h
 | .op x t, hg, hnd, hm, hx, a, w, hS, h => by
  simp only [OT.rm]
  by_cases hxz : x = z
  ·subst hxz
   rw [if_pos rfl]
   exact Tx.first hns hz hf (R2 := []) [] a w (fun r hr => by cases hr) hS h
  ·rw [if_neg hxz]
   rw [OT.ids, List.nodup_cons] at hnd
   have hm' : z ∈ t.ids := (List.mem_cons.1 hm).resolve_left fun e => hxz e.symm
   refine Tx.firstQ hns hz (fun a w hS h => TxT.first hns hz hf hg.2 hnd.2 hm' (fun x hx' => hx x (List.mem_cons_of_mem _ hx')) a w hS h) [x] a w (fun r hr p hp => ?_) hS h
   rw [List.mem_singleton.1 hr] at hp
   exact ((hg.1 z hm').apart (hx x List.mem_cons_self) hp hz).1
 | .two i B j t, hg, hnd, hm, hx, a, w, hS, h => by
  obtain ⟨h1, h2, h3, h4, hi, hj, hgt⟩ := hg
  obtain ⟨ha, hb⟩ := h
  have hzi : z ≠ i := fun e => by subst e; have := hi _ hz; rw [hf] at this; cases this
  have hzj : z ≠ j := fun e => by subst e; have := hj _ hz; rw [hf] at this; cases this
  rw [OT.ids, List.nodup_cons, List.nodup_append] at hnd
  obtain ⟨hni, hnB, hnt, hdis⟩ := hnd
  rw [List.nodup_cons] at hnt
  have hxB : ∀ b ∈ B, b ∉ ancs l z := fun b hb => hx b (List.mem_cons_of_mem _ (List.mem_append_left _ hb))
  have hxi : i ∉ ancs l z := hx i List.mem_cons_self
  have hxj : j ∉ ancs l z := hx j (List.mem_cons_of_mem _ (List.mem_append_right _ List.mem_cons_self))
  simp only [OT.rm]
  by_cases hzB : z ∈ B
  ·rw [if_pos hzB]
   obtain ⟨B1, B2, rfl⟩ := List.append_of_mem hzB
   have hz1 : z ∉ B1 := fun hc => by
    rw [List.nodup_append] at hnB
    exact hnB.2.2 z hc z List.mem_cons_self rfl
   have he : (B1 ++ z :: B2).erase z = B1 ++ B2 := by rw [List.erase_append_right _ hz1, List.erase_cons_head]
   rw [he]
   rw [List.pairwise_append] at h3
   have hB1 : ∀ r ∈ B1, ∀ p : Oper, l[(r : Nat)]? = some p → Apart l p oz := fun r hr p hp => ((h3.2.2 r hr z List.mem_cons_self).apart (hxB r (List.mem_append_left _ hr)) hp hz).1
   have e1 : i :: (B1 ++ z :: B2 ++ [j]) = (i :: B1) ++ z :: (B2 ++ [j]) := by simp
   have e2 : B1 ++ z :: B2 ++ [j, i] = B1 ++ z :: (B2 ++ [j, i]) := by simp
   rw [e1] at ha
   rw [e2] at hb
   obtain ⟨v, hv, ta⟩ := Tx.first hns hz hf (i :: B1) a w (fun r hr p hp => by
    rcases List.mem_cons.1 hr with rfl | hr
    ·exact (h2 z hzB).2.1 p oz hp hz
    ·exact hB1 r hr p hp) hS ha
   obtain ⟨v', hv', tb⟩ := Tx.first hns hz hf B1 a w hB1 hS hb
   have := Fl.unique hS hv hv'
   subst this
   refine ⟨v, hv, ?_, ?_⟩
   ·have e3 : i :: (B1 ++ B2 ++ [j]) = (i :: B1) ++ (B2 ++ [j]) := by simp
    rw [e3]; exact ta
   ·have e4 : B1 ++ B2 ++ [j, i] = B1 ++ (B2 ++ [j, i]) := by simp
    rw [e4]; exact tb
  ·rw [if_neg hzB]
   have hm' : z ∈ t.ids := by
    rcases List.mem_cons.1 hm with e | hm
    ·exact absurd e hzi
    ·rcases List.mem_append.1 hm with hm | hm
     ·exact absurd hm hzB
     ·exact (List.mem_cons.1 hm).resolve_left hzj
   have hq := h1 z hm'
   have hrec : ∀ (a : Act) (w : World), S w → TxT P fl ro l S Q t a w → ∃ v, Fl P l S oz a v ∧ TxT P fl ro l S Q (t.rm z) (a.put oz.dst v) w := fun a w hS h => TxT.first hns hz hf hgt hnt.2 hm' (fun x hx' => hx x (List.mem_cons_of_mem _ (List.mem_append_right _ (List.mem_cons_of_mem _ hx')))) a w hS h
   have hR : ∀ r, r = i ∨ r = j ∨ r ∈ B → ∀ p : Oper, l[(r : Nat)]? = some p → Apart l p oz := fun r hr p hp => by
    rcases hr with rfl | rfl | hr
    ·exact (hq.1.apart hxi hp hz).1
    ·exact (hq.2.1.apart hxj hp hz).1
    ·exact ((hq.2.2 r hr).apart (hxB r hr) hp hz).1
   obtain ⟨v, hv, ta⟩ := Tx.firstQ (Q' := fun _ => TxT P fl ro l S Q (t.rm z)) hns hz hrec (i :: (B ++ [j])) a w (fun r hr => hR r (by simp at hr; rcases hr with h | h | h <;> simp [h])) hS ha
   obtain ⟨v', hv', tb⟩ := Tx.firstQ (Q' := fun _ => TxT P fl ro l S Q (t.rm z)) hns hz hrec (B ++ [j, i]) a w (fun r hr => hR r (by simp at hr; rcases hr with h | h | h <;> simp [h])) hS hb
   have := Fl.unique hS hv hv'
   subst this
   exact ⟨v, hv, ta, tb⟩
theorem TxT.over (hns : ∀ (i : Nat) (o : Oper), l[i]? = some o → noSel o = true) {z : Nat} {oz : Oper} (hz : l[z]? = some oz) (hf : fl oz = false) : ∀ {t : OT}, Good fl l t → t.ids.Nodup → z ∈ t.ids → (∀ x ∈ t.ids, x ∉ ancs l z) → (∀ x ∈ t.ids, x < l.length) →
  ∃ t' : OT, t'.ids.Perm (t.ids.erase z) ∧ Good fl l t' ∧ ∀ (a : Act) (w : World), TxT P fl ro l S Q t a w → Ov P ro l S oz (TxT P fl ro l S Q t') a w
 | .nil, _, _, h, _, _ => by cases h
 | .op x t, hg, hnd, hm, hx, hlt => by
  by_cases hxz : x = z
  ·subst hxz
   exact ⟨t, by rw [OT.ids, List.erase_cons_head], hg.2, fun a w h => Tx.over hns hz hf (R2 := []) [] a w (fun r hr => by cases hr) h⟩
  ·rw [OT.ids, List.nodup_cons] at hnd
   have hm' : z ∈ t.ids := (List.mem_cons.1 hm).resolve_left fun e => hxz e.symm
   obtain ⟨t', hp, hgt, hT⟩ := TxT.over hns hz hf hg.2 hnd.2 hm' (fun x hx' => hx x (List.mem_cons_of_mem _ hx')) (fun x hx' => hlt x (List.mem_cons_of_mem _ hx'))
   refine ⟨.op x t', ?_, ⟨fun y hy => hg.1 y (List.mem_of_mem_erase (hp.mem_iff.1 hy)), hgt⟩, fun a w h => ?_⟩
   ·rw [OT.ids, OT.ids, List.erase_cons_tail (by simpa using hxz)]
    exact hp.cons x
   ·refine Tx.overQ (Q' := fun _ => TxT P fl ro l S Q t') hns hz (fun a w h => hT a w h) [x] a w (fun r hr p hp => ?_) h
    rw [List.mem_singleton.1 hr] at hp
    obtain ⟨e1, e2⟩ := (hg.1 z hm').apart (hx x List.mem_cons_self) hp hz
    exact ⟨e1, e2.resolve_right (by rw [hf]; simp)⟩
 | .two i B j t, hg, hnd, hm, hx, hlt => by
  obtain ⟨h1, h2, h3, h4, hi, hj, hgt⟩ := hg
  rw [OT.ids, List.nodup_cons, List.nodup_append] at hnd
  obtain ⟨hni, hnB, hnt, hdis⟩ := hnd
  have hxB : ∀ b ∈ B, b ∉ ancs l z := fun b hb => hx b (List.mem_cons_of_mem _ (List.mem_append_left _ hb))
  have hxi : i ∉ ancs l z := hx i List.mem_cons_self
  by_cases hzi : z = i
  ·subst hzi
   refine ⟨OT.pre (B ++ [j]) t, ?_, good_pre hgt _ ?_ ?_, fun a w h => ?_⟩
   ·rw [OT.ids_pre, OT.ids, List.erase_cons_head]; simp
   ·rw [List.pairwise_append]
    exact ⟨h3, List.pairwise_singleton _ _, fun b hb y hy => by rw [List.mem_singleton.1 hy]; exact (h2 b hb).2.2⟩
   ·intro x hx' y hy
    rcases List.mem_append.1 hx' with hx' | hx'
    ·exact (h1 y hy).2.2 x hx'
    ·rw [List.mem_singleton.1 hx']; exact (h1 y hy).2.1
   ·rw [TxT_pre]
    exact Tx.over hns hz hf (R2 := B ++ [j]) [] a w (fun r hr => by cases hr) h.1
  by_cases hzj : z = j
  ·subst hzj
   refine ⟨OT.pre (B ++ [i]) t, ?_, good_pre hgt _ ?_ ?_, fun a w h => ?_⟩
   ·have hzB : z ∉ B := fun hc => hdis z hc z List.mem_cons_self rfl
    rw [OT.ids_pre, OT.ids, List.erase_cons_tail (by simpa using fun e => hzi e.symm), List.erase_append_right _ hzB, List.erase_cons_head]
    simp only [List.append_assoc, List.singleton_append]
    exact List.perm_middle
   ·rw [List.pairwise_append]
    exact ⟨h3, List.pairwise_singleton _ _, fun b hb y hy => by
     rw [List.mem_singleton.1 hy]
     exact .inr ⟨(h2 b hb).2.1.symm, fun p q hp hq => .inl ((h2 b hb).1 p hp)⟩⟩
   ·intro x hx' y hy
    rcases List.mem_append.1 hx' with hx' | hx'
    ·exact (h1 y hy).2.2 x hx'
    ·rw [List.mem_singleton.1 hx']; exact (h1 y hy).1
   ·rw [TxT_pre]
    have hb := h.2
    exact Tx.over hns hz hf (R2 := [i]) B a w (fun r hr p hp => by
     obtain ⟨e1, e2⟩ := ((h2 r hr).2.2).apart (hxB r hr) hp hz
     exact ⟨e1, (h2 r hr).1 p hp⟩) hb
  ·exfalso
   rcases List.mem_cons.1 hm with e | hm
   ·exact hzi e
   ·rcases List.mem_append.1 hm with hm | hm
    ·have := (h2 z hm).1 _ hz
     rw [hf] at this; cases this
    ·have hm' := (List.mem_cons.1 hm).resolve_left hzj
     rcases (h1 z hm').1 with e | ⟨_, e⟩
     ·exact hxi e
     ·have hp : l[i]? = some (l[i]'(hlt i List.mem_cons_self)) := List.getElem?_eq_getElem _
      generalize l[i]'(hlt i List.mem_cons_self) = p at hp
      have e1 := hi p hp
      rcases e p oz hp hz with e2 | e2
      ·rw [e1] at e2; cases e2
      ·rw [hf] at e2; cases e2
theorem region_tree {t : OT} (hb : okBack l = true) (hg : Good fl l t) (hnd : t.ids.Nodup) (hall : ∀ k, k ∈ t.ids ↔ k < l.length) (hm : P.follows .mixedOrders = true) {id : Nat} {a : Act} {w : World} (hS : S w.drew)
  (h : TxT P fl ro l S Q t a w.drew) : (Code.region id l.toArray true).wpIn (FR ro) 0 P Q a w := by
 have hns := okBack_ns hb
 let I : Array Bool → Act → World → Prop := fun listed a w => S w ∧ ∃ t : OT, Good fl l t ∧ t.ids.Nodup ∧ (∀ k, k ∈ t.ids ↔ k < l.length ∧ listed.getD k false = false) ∧ TxT P fl ro l S Q t a w
 refine region_inv hb hm I ?_ ?_ ?_
 ·refine ⟨hS, t, hg, hnd, fun k => ?_, h⟩
  have e : (Array.replicate l.length false).getD k false = false := by rw [Array.getD_eq_getD_getElem?, Array.getElem?_replicate]; split <;> rfl
  rw [hall k, e]; simp
 ·intro listed a w i o hsz hcl hI ho hf hdeps
  obtain ⟨hSw, t, hg, hnd, hall, hT⟩ := hI
  have hlt : i < l.length := (List.getElem?_eq_some_iff.1 ho).1
  have him : i ∈ t.ids := (hall i).2 ⟨hlt, hf⟩
  have hancl : ∀ r ∈ ancs l i, listed.getD r false = true := fun r hr => ancT_sound hcl l [] [] rfl rfl (fun i o h => by simp at h) i o ho hdeps r hr
  have hx : ∀ x ∈ t.ids, x ∉ ancs l i := fun x hx hc => by
   have h1 := hancl x hc
   rw [((hall x).1 hx).2] at h1; cases h1
  have hpend : ∀ ids : List Nat, ids.Perm (t.ids.erase i) → ∀ k, k ∈ ids ↔ k < l.length ∧ (listed.setIfInBounds i true).getD k false = false := fun ids hp k => by
   rw [hp.mem_iff, hnd.mem_erase_iff, hall k]
   by_cases hik : i = k
   ·subst hik
    have e : (listed.setIfInBounds i true).getD i false = true := by rw [Array.getD_eq_getD_getElem?, Array.getElem?_setIfInBounds, if_pos rfl, if_pos (by omega)]; rfl
    rw [e]; simp
   ·rw [getD_set_ne false hik]
    constructor
    ·rintro ⟨_, h1, h2⟩; exact ⟨h1, h2⟩
    ·rintro ⟨h1, h2⟩; exact ⟨fun e => hik e.symm, h1, h2⟩
  cases hfo : fl o with
  | true =>
   obtain ⟨v, hv, ht⟩ := TxT.first hns ho hfo hg hnd him hx a w hSw hT
   have he := ids_rm ho hfo hg
   have fin : I (listed.setIfInBounds i true) (a.put o.dst v) w := ⟨hSw, t.rm i, good_rm ho hfo hg, by rw [he]; exact hnd.erase i, hpend _ (by rw [he]), ht⟩
   refine ⟨fun hw => ?_, fun hw => ?_⟩
   ·unfold Eff
    rw [hv.1 hw w hSw]
    exact fin
   ·rw [hv.2 hw] at fin; exact fin
  | false =>
   obtain ⟨t', hp, hg', hO⟩ := TxT.over (P := P) (ro := ro) (Q := Q) (S := S) hns ho hfo hg hnd him hx (fun x hx => ((hall x).1 hx).1)
   obtain ⟨h1, h2⟩ := hO a w hT
   have hnd' : t'.ids.Nodup := hp.nodup_iff.2 (hnd.erase i)
   exact ⟨fun hw => (h1 hw).mono fun v w' ⟨hS', ht⟩ => ⟨hS', t', hg', hnd', hpend _ hp, ht⟩, fun hw => ⟨hSw, t', hg', hnd', hpend _ hp, h2 hw⟩⟩
 ·intro listed a w hsz hI hdone
  obtain ⟨_, t, _, _, hall, hT⟩ := hI
  have hno : ∀ k, k ∉ t.ids := fun k hk => by
   obtain ⟨h1, h2⟩ := (hall k).1 hk
   rw [hdone k h1] at h2; cases h2
  cases t with
  | nil => exact hT
  | op i t => exact absurd List.mem_cons_self (hno i)
  | two i B j t => exact absurd List.mem_cons_self (hno i)
end

def unB (fl : Oper → Bool) (l : List Oper) (an : List (List Nat)) (x z : Nat) : Bool := (an.getD z []).contains x || match l[x]?, l[z]? with
 | some p, some q => p.apart l.toArray q && q.apart l.toArray p && (fl p || fl q)
 | _, _ => true
def apB (l : List Oper) (x z : Nat) : Bool := match l[x]?, l[z]? with
 | some p, some q => p.apart l.toArray q && q.apart l.toArray p
 | _, _ => true
def pwB (f : Nat → Nat → Bool) : List Nat → Bool
 | [] => true
 | x :: L => L.all (f x) && pwB f L
def goodB (fl : Oper → Bool) (l : List Oper) (an : List (List Nat)) : OT → Bool
 | .nil => true
 | .op x t => t.ids.all (unB fl l an x) && goodB fl l an t
 | .two i B j t => (t.ids.all fun y => unB fl l an i y && unB fl l an j y && B.all fun b => unB fl l an b y) && (B.all fun b => (match l[b]? with | some p => fl p | none => true) && apB l i b && unB fl l an b j) && pwB (unB fl l an) B && apB l i j &&
  (match l[i]? with | some p => !fl p | none => true) && (match l[j]? with | some p => !fl p | none => true) && goodB fl l an t
def okTree (fl : Oper → Bool) (l : List Oper) (t : OT) : Bool :=
 okBack l && goodB fl l (ancT l []) t && pwB (fun x y => !Nat.beq x y) t.ids && t.ids.all (fun k => Nat.blt k l.length) && (List.range l.length).all fun k => t.ids.contains k
section
variable {fl : Oper → Bool} {l : List Oper}
theorem pwB_pw {f : Nat → Nat → Bool} {R : Nat → Nat → Prop} (h : ∀ x y, f x y = true → R x y) : ∀ {L : List Nat}, pwB f L = true → L.Pairwise R
 | [], _ => List.Pairwise.nil
 | x :: L, hb => by
  simp only [pwB, Bool.and_eq_true] at hb
  exact List.Pairwise.cons (fun y hy => h x y (List.all_eq_true.1 hb.1 y hy)) (pwB_pw h hb.2)
theorem apB_ap {x z : Nat} (h : apB l x z = true) : Ap l x z := fun p q hp hq => by
 simp only [apB, hp, hq, Bool.and_eq_true] at h
 exact h
theorem unB_un {x z : Nat} (h : unB fl l (ancT l []) x z = true) : Un fl l x z := by
 simp only [unB, Bool.or_eq_true] at h
 rcases h with h | h
 ·exact .inl (List.contains_iff_mem.1 h)
 ·refine .inr ⟨fun p q hp hq => ?_, fun p q hp hq => ?_⟩
  ·simp only [hp, hq, Bool.and_eq_true] at h
   exact h.1
  ·simp only [hp, hq, Bool.and_eq_true, Bool.or_eq_true] at h
   exact h.2
theorem goodB_good : ∀ {t : OT}, goodB fl l (ancT l []) t = true → Good fl l t
 | .nil, _ => trivial
 | .op x t, h => by
  simp only [goodB, Bool.and_eq_true] at h
  exact ⟨fun y hy => unB_un (List.all_eq_true.1 h.1 y hy), goodB_good h.2⟩
 | .two i B j t, h => by
  simp only [goodB, Bool.and_eq_true] at h
  obtain ⟨⟨⟨⟨⟨⟨h1, h2⟩, h3⟩, h4⟩, h5⟩, h6⟩, h7⟩ := h
  refine ⟨fun y hy => ?_, fun b hb => ?_, pwB_pw (fun x y h => unB_un h) h3, apB_ap h4, fun p hp => ?_, fun p hp => ?_, goodB_good h7⟩
  ·have := List.all_eq_true.1 h1 y hy
   simp only [Bool.and_eq_true] at this
   exact ⟨unB_un this.1.1, unB_un this.1.2, fun b hb => unB_un (List.all_eq_true.1 this.2 b hb)⟩
  ·have := List.all_eq_true.1 h2 b hb
   simp only [Bool.and_eq_true] at this
   refine ⟨fun p hp => ?_, apB_ap this.1.2, unB_un this.2⟩
   have h8 := this.1.1
   rw [hp] at h8; exact h8
  ·rw [hp] at h5; simpa using h5
  ·rw [hp] at h6; simpa using h6
theorem okTree_ok {t : OT} (h : okTree fl l t = true) : okBack l = true ∧ Good fl l t ∧ t.ids.Nodup ∧ ∀ k, k ∈ t.ids ↔ k < l.length := by
 simp only [okTree, Bool.and_eq_true] at h
 obtain ⟨⟨⟨⟨h1, h2⟩, h3⟩, h4⟩, h5⟩ := h
 refine ⟨h1, goodB_good h2, pwB_pw (fun x y h e => ?_) h3, fun k => ⟨fun hk => ?_, fun hk => ?_⟩⟩
 ·subst e
  rw [Nat.beq_refl] at h; cases h
 ·exact Nat.le_of_ble_eq_true (List.all_eq_true.1 h4 k hk)
 ·exact List.contains_iff_mem.1 (List.all_eq_true.1 h5 k (List.mem_range.2 hk))
end

section
variable {P : Program} {fl : Oper → Bool} {ro : Option Nat} {N : Nat} {l : List Oper} {Q : Exit → Act → World → Prop} {E : List (Nat × Value)} {ds : List Deferred} {b : World} {F F0 : List SP}
structure ST (P : Program) (fl : Oper → Bool) (ro : Option Nat) (N : Nat) (F0 : List SP) (l : List Oper) (t : OT) (Q : Exit → Act → World → Prop) (E : List (Nat × Value)) (ds : List Deferred) (b : World) (F : List SP) : Prop where
 run : ∀ w, Sat b F w → ∀ a, Kn N E a → a.defers = ds → Sat b F0 w → TxT P fl ro l (Sat b F0) Q t a w
theorem sw_tree (fl : Oper → Bool) (t : OT) (F0 : List SP) [hm : Mixed P] {id : Nat} (hok : okTree fl l t = true) (he : Ent F F0) (h : ST P fl ro N F0 l t Q E ds b F) : SW P ro N (.region id l.toArray true) Q E ds b F := ⟨fun w H a hk hd => by
 obtain ⟨h1, h2, h3, h4⟩ := okTree_ok hok
 have H' := H.ext (Fr.drew w)
 exact region_tree h1 h2 h3 h4 hm.on (S := Sat b F0) (H'.ent he) (h.run _ H' a hk hd (H'.ent he))⟩
theorem st_ops (k n : Nat) (t : OT) {t0 : OT} (ht : OT.pre (List.range' k n) t = t0) (hn : Nat.ble (k + n) l.length = true) (h : SD P fl ro N F0 l k ((l.drop k).take n) (fun _ => TxT P fl ro l (Sat b F0) Q t) E ds b F) : ST P fl ro N F0 l t0 Q E ds b F := ⟨fun w H a hk hd H0 => by
 subst ht
 have hn := Nat.le_of_ble_eq_true hn
 have hl : ((l.drop k).take n).length = n := by rw [List.length_take, List.length_drop]; omega
 have := h.run w H a hk hd H0 (fun j hj => by
  rw [hl] at hj
  rw [List.getElem?_take, if_pos hj, List.getElem?_drop])
 rw [hl] at this
 rw [TxT_pre]
 exact this⟩
theorem st_two {i j : Nat} {B : List Nat} {t : OT} (h1 : ST P fl ro N F0 l (OT.pre (i :: (B ++ [j])) t) Q E ds b F) (h2 : ST P fl ro N F0 l (OT.pre (B ++ [j, i]) t) Q E ds b F) : ST P fl ro N F0 l (.two i B j t) Q E ds b F := ⟨fun w H a hk hd H0 => by
 have a1 := h1.run w H a hk hd H0
 have a2 := h2.run w H a hk hd H0
 rw [TxT_pre] at a1 a2
 exact ⟨a1, a2⟩⟩
theorem sn_tree {t : OT} (he : Ent F F0) (h : ST P fl ro N F0 l t Q E ds b F) : SN N (fun _ => TxT P fl ro l (Sat b F0) Q t) .normal E ds b F := ⟨fun w H a hk hd => h.run w H a hk hd (H.ent he)⟩
theorem st_twoJ {S' : Type} {i j : Nat} {B : List Nat} {t : OT} (Em : S' → List (Nat × Value)) (Fm : S' → List SP) (I : S' → Prop) (he : ∀ s, I s → Ent (Fm s) F0)
  (h1 : (∀ s E' F', I s → Sub (Em s) E' → Ent F' (Fm s) → SN N (fun _ => TxT P fl ro l (Sat b F0) Q t) .normal E' ds b F') → ST P fl ro N F0 l (OT.pre (i :: (B ++ [j])) t) Q E ds b F)
  (h2 : (∀ s E' F', I s → Sub (Em s) E' → Ent F' (Fm s) → SN N (fun _ => TxT P fl ro l (Sat b F0) Q t) .normal E' ds b F') → ST P fl ro N F0 l (OT.pre (B ++ [j, i]) t) Q E ds b F)
  (tail : ∀ s, I s → ST P fl ro N F0 l t Q (Em s) ds b (Fm s)) : ST P fl ro N F0 l (.two i B j t) Q E ds b F := by
 have J : ∀ s E' F', I s → Sub (Em s) E' → Ent F' (Fm s) → SN N (fun _ => TxT P fl ro l (Sat b F0) Q t) .normal E' ds b F' := fun s E' F' hI hs hF => ⟨fun w H a hk hd => (tail s hI).run w (H.ent hF) a (hk.sub hs) hd ((H.ent hF).ent (he s hI))⟩
 exact st_two (h1 J) (h2 J)
theorem sn_last (h : SN N Q .normal E ds b F) : SN N (fun _ => TxT P fl ro l (Sat b F0) Q .nil) .normal E ds b F := ⟨fun w H a hk hd => h.run w H a hk hd⟩
end
end Go.Eng
namespace Go.Eng
open Go Go.RowKit
section
variable {P : Program} {tt : Nat → Option TI} [hTT : TT P tt] {E : List (Nat × Value)} {v : Value} {ty : Nat} {ro : Option Nat} {N d : Nat} {pos : String} {aft : Array Edge} {g : Option (Nat × Bool)} {l rest : List Oper} {Q : Exit → Act → World → Prop} {ds : List Deferred} {b : World} {F F0 : List SP} {op : Op} {fl : Oper → Bool} {kk : Nat}
end
end Go.Eng
namespace Go.Eng
open Go Go.RowKit
section
variable {P : Program} {tt : Nat → Option TI} [TT P tt] {ro : Option Nat} {N : Nat} {l rest : List Oper} {Q : Exit → Act → World → Prop} {E : List (Nat × Value)} {ds : List Deferred} {b : World} {F G : List SP}
 {d : Nat} {op : Op} {ty : TypeId} {pos : String} {aft : Array Edge} {g : Option (Nat × Bool)} {v : Value}
theorem pu_ixA {t e n s1 s2 : Nat} {z1 : Value} {f1 : List (Nat × Nat)} {i : TI} {x y : Operand} {cs us : List Value} {k : IntKind} {j : Int} (ht : tt t = some ⟨.array n e, s1, s2, z1, f1⟩) (he : tt e = some i) (hagg : aggT i.desc = true) (hx : ev E x = some (.agg ⟨cs⟩)) (hy : ev E y = some (.int k j)) (hj : 0 ≤ j ∧ j < n)
  (hu : (cs.drop (j.toNat * i.size)).take i.size = us) : Pu P E (.index t x y) ty (.agg ⟨us⟩) := by
 intro w ρ o hρ ho _
 have hex : (⟨cs⟩ : Array Value).extract (j.toNat * i.size) (j.toNat * i.size + i.size) = ⟨us⟩ := by
  apply Array.ext'
  rw [← hu]
  simp [List.extract_eq_take_drop]
 simp only [execOp, ho, hρ _ _ hx, hρ _ _ hy, Instr.index, asIntOf, Sem.run_bind, Sem.run_pure, Result.andThen, TT.run_und ht rfl, hj, if_true]
 rw [if_pos ⟨trivial, trivial⟩]
 simp only [part, Sem.run_bind, run_isAgg he, hagg, TT.run_size he, Result.andThen, if_true, Sem.run_pure, hex]
end
end Go.Eng
namespace Go.Eng
open Go Go.RowKit

section
variable {P : Program} {ro : Option Nat} {l : List Oper} {Q Q' : Exit → Act → World → Prop} {S : World → Prop} {fl : Oper → Bool} {y : Nat} {oy : Oper}
theorem Tx.overS (hns : ∀ (i : Nat) (o : Oper), l[i]? = some o → noSel o = true) {i : Nat} {oi : Oper} (hi : l[i]? = some oi)
  (hQ : ∀ a w, S w → Q .normal a w → Ov P ro l S oi (Q' .normal) a w) :
  ∀ (R : List Nat) (a : Act) (w : World), (∀ r ∈ R, ∀ p : Oper, l[(r : Nat)]? = some p → Apart l p oi ∧ fl p = true) → S w → Tx P fl ro l S Q R a w → Ov P ro l S oi (Tx P fl ro l S Q' R) a w := by
 intro R
 induction R with
 | nil => intro a w _ hS h; exact hQ a w hS h
 | cons r R1 ih =>
  intro a w hap hS h
  obtain ⟨p, hp, hw, hn⟩ := h
  obtain ⟨hapr, hfp⟩ := hap r List.mem_cons_self p hp
  have hap' : ∀ r ∈ R1, ∀ p : Oper, l[(r : Nat)]? = some p → Apart l p oi ∧ fl p = true := fun r hr => hap r (List.mem_cons_of_mem _ hr)
  have hsp := hns _ _ hp
  have hsi := hns _ _ hi
  have key : ∃ u, Fl P l S p a u ∧ Tx P fl ro l S Q R1 (a.put p.dst u) w := by
   cases hwant : Region.wanted p (yielded l.toArray a.tmps) with
   | false => exact ⟨undef, ⟨fun hc => (by rw [hwant] at hc; cases hc), fun _ => rfl⟩, hn hwant⟩
   | true =>
    rcases hw hwant with ⟨_, u, hu, ht0⟩ | ⟨hff, _⟩
    ·exact ⟨u, ⟨fun _ => hu, fun hc => (by rw [hwant] at hc; cases hc)⟩, ht0⟩
    ·rw [hfp] at hff; cases hff
  obtain ⟨u, hu, ht⟩ := key
  obtain ⟨h1, h2⟩ := ih _ w hap' hS ht
  rw [want_put hapr] at h1 h2
  have back : ∀ v w', Tx P fl ro l S Q' R1 ((a.put p.dst u).put oi.dst v) w' → Tx P fl ro l S Q' (r :: R1) (a.put oi.dst v) w' := by
   intro v w' ht'
   rw [← put_put hapr.symm] at ht'
   have hu' : Fl P l S p (a.put oi.dst v) u := (Fl.put hsp hapr.symm).2 hu
   refine ⟨p, hp, fun hc => .inl ⟨hfp, u, hu'.1 hc, ht'⟩, fun hc => ?_⟩
   have := hu'.2 hc
   subst this
   exact ht'
  refine ⟨fun hwi => ?_, fun hwi => back _ _ (h2 hwi)⟩
  have he := h1 hwi
  rw [eff_put hsi hapr] at he
  exact he.mono fun v w' ⟨hS', ht'⟩ => ⟨hS', back _ _ ht'⟩
theorem T1.rd (hns : ∀ (i : Nat) (o : Oper), l[i]? = some o → noSel o = true) {i : Nat} {oi : Oper} (hi : l[i]? = some oi) (hf : fl oi = true) (hsy : noSel oy = true) (hyi : Apart l oy oi) {R : List Nat} {a : Act} {w : World} {u : Value} (hu : Fl P l S oi a u) (ht : T1 P fl ro l S Q y oy R (a.put oi.dst u) w) :
  T1 P fl ro l S Q y oy (i :: R) a w := by
 have hsi := hns _ _ hi
 refine ⟨?_, fun _ => ⟨oi, hi, fun hc => .inl ⟨hf, u, hu.1 hc, ht⟩, fun hc => ?_⟩⟩
 ·have han := ht.an
  unfold AN at han ⊢
  rw [eff_put hsy hyi.symm] at han
  refine han.mono ?_
  rintro g w2 ⟨hS2, hT⟩
  refine ⟨hS2, oi, hi, fun hc => .inl ⟨hf, u, ?_, ?_⟩, fun hc => ?_⟩
  ·rw [run_put hsi hyi]
   rw [want_put hyi] at hc
   exact hu.1 hc
  ·rw [put_put hyi]; exact hT
  ·rw [want_put hyi] at hc
   have := hu.2 hc
   subst this
   rw [put_put hyi]; exact hT
 ·have := hu.2 hc
  subst this
  exact ht
theorem T1.run (hns : ∀ (i : Nat) (o : Oper), l[i]? = some o → noSel o = true) (hsy : noSel oy = true) {R2 : List Nat} : ∀ (R1 : List Nat) (a : Act) (w : World), (∀ r ∈ R1, ∀ p : Oper, l[(r : Nat)]? = some p → fl p = true ∧ Apart l oy p) → Tx P fl ro l S (fun _ => T1 P fl ro l S Q y oy R2) R1 a w → T1 P fl ro l S Q y oy (R1 ++ R2) a w
 | [], _, _, _, h => h
 | r :: R1, a, w, hr, h => by
  obtain ⟨p, hp, hw, hn⟩ := h
  obtain ⟨h1, h2⟩ := hr r List.mem_cons_self p hp
  have ih := fun a w h => T1.run hns hsy (R2 := R2) R1 a w (fun r hr' => hr r (List.mem_cons_of_mem _ hr')) h
  cases hwant : Region.wanted p (yielded l.toArray a.tmps) with
  | false => exact T1.rd hns hp h1 hsy h2 (u := undef) ⟨fun hc => (by rw [hwant] at hc; cases hc), fun _ => rfl⟩ (ih _ _ (hn hwant))
  | true =>
   rcases hw hwant with ⟨_, v, hv, ht⟩ | ⟨hff, _⟩
   ·exact T1.rd hns hp h1 hsy h2 ⟨fun _ => hv, fun hc => (by rw [hwant] at hc; cases hc)⟩ (ih _ _ ht)
   ·rw [h1] at hff; cases hff
def TxS (P : Program) (fl : Oper → Bool) (ro : Option Nat) (l : List Oper) (S : World → Prop) (Q : Exit → Act → World → Prop) (y : Nat) (oy : Oper) (L R : List Nat) (t : OT) (a : Act) (w : World) : Prop :=
 Tx P fl ro l S (fun _ => T1 P fl ro l S (fun _ => TxT P fl ro l S Q t) y oy R) L a w
structure Slides (fl : Oper → Bool) (l : List Oper) (y : Nat) (L R : List Nat) (t : OT) : Prop where
 fL : ∀ x ∈ L, IsFl fl l x ∧ x ∈ ancs l y
 LL : L.Pairwise (Un fl l)
 LR : ∀ x ∈ L, ∀ z ∈ R, Un fl l x z
 fR : ∀ z ∈ R, y ∉ ancs l z ∧ Ap l y z
 RR : R.Pairwise (Un fl l)
 ft : ∀ z ∈ t.ids, y ∈ ancs l z
 Rt : ∀ x ∈ R, ∀ z ∈ t.ids, Un fl l x z
 g : Good fl l t
theorem split_at {i : Nat} {L : List Nat} (h : i ∈ L) (hnd : L.Nodup) : ∃ L1 L2, L = L1 ++ i :: L2 ∧ i ∉ L1 ∧ i ∉ L2 := by
 obtain ⟨L1, L2, rfl⟩ := List.append_of_mem h
 rw [List.nodup_append, List.nodup_cons] at hnd
 exact ⟨L1, L2, rfl, fun hc => hnd.2.2 i hc i List.mem_cons_self rfl, hnd.2.1.1⟩
theorem sub_of {i : Nat} {L1 L2 L : List Nat} (h : (L1 ++ i :: L2).Sublist L) : (L1 ++ L2).Sublist L := (List.Sublist.append_left (List.sublist_cons_self i L2) L1).trans h
theorem region_slide {L R : List Nat} {t : OT} (hb : okBack l = true) (hy : l[y]? = some oy) (hgy : oy.guard = none) (hfy : fl oy = false) (hs : Slides fl l y L R t) (hnd : (L ++ R ++ t.ids).Nodup) (hall : ∀ k, k ∈ L ++ R ++ t.ids ↔ k < l.length ∧ k ≠ y) (hm : P.follows .mixedOrders = true) {id : Nat} {a : Act} {w : World} (hS : S w.drew)
  (h : TxS P fl ro l S Q y oy L R t a w.drew) : (Code.region id l.toArray true).wpIn (FR ro) 0 P Q a w := by
 have hns := okBack_ns hb
 have hsy := hns _ _ hy
 have hyl : y < l.length := (List.getElem?_eq_some_iff.1 hy).1
 let I : Array Bool → Act → World → Prop := fun listed a w => S w ∧ ((listed.getD y false = false ∧ ∃ L' R' : List Nat, L'.Sublist L ∧ R'.Sublist R ∧ (∀ k, k ∈ L' ++ R' ++ t.ids ↔ k < l.length ∧ k ≠ y ∧ listed.getD k false = false) ∧ TxS P fl ro l S Q y oy L' R' t a w) ∨
  (listed.getD y false = true ∧ ∃ t : OT, Good fl l t ∧ t.ids.Nodup ∧ (∀ k, k ∈ t.ids ↔ k < l.length ∧ listed.getD k false = false) ∧ TxT P fl ro l S Q t a w))
 refine region_inv hb hm I ?_ ?_ ?_
 ·refine ⟨hS, .inl ⟨?_, L, R, List.Sublist.refl _, List.Sublist.refl _, fun k => ?_, h⟩⟩
  ·rw [Array.getD_eq_getD_getElem?, Array.getElem?_replicate]; split <;> rfl
  ·have e : (Array.replicate l.length false).getD k false = false := by rw [Array.getD_eq_getD_getElem?, Array.getElem?_replicate]; split <;> rfl
   rw [hall k, e]; simp
 ·intro listed a w i o hsz hcl hI ho hf hdeps
  obtain ⟨hSw, hI⟩ := hI
  have hlt : i < l.length := (List.getElem?_eq_some_iff.1 ho).1
  have hancl : ∀ r ∈ ancs l i, listed.getD r false = true := fun r hr => ancT_sound hcl l [] [] rfl rfl (fun i o h => by simp at h) i o ho hdeps r hr
  have hset : ∀ k, (listed.setIfInBounds i true).getD k false = false ↔ i ≠ k ∧ listed.getD k false = false := fun k => by
   by_cases hik : i = k
   ·subst hik
    have e : (listed.setIfInBounds i true).getD i false = true := by rw [Array.getD_eq_getD_getElem?, Array.getElem?_setIfInBounds, if_pos rfl, if_pos (by omega)]; rfl
    rw [e]; simp
   ·rw [getD_set_ne false hik]; simp [hik]
  rcases hI with ⟨hyk, L', R', hL', hR', hmem, hT⟩ | ⟨hyk, t', hg, hndt, hallt, hT⟩
  ·have hnd' : (L' ++ R' ++ t.ids).Nodup := ((hL'.append hR').append (List.Sublist.refl _)).nodup hnd
   by_cases hiy : i = y
   ·subst hiy
    rw [hy] at ho; cases ho
    have hLn : L' = [] := by
     cases hL2 : L' with
     | nil => rfl
     | cons x L2 =>
      have hx : x ∈ L' := by rw [hL2]; exact List.mem_cons_self
      have h1 := hancl x ((hs.fL x (hL'.subset hx)).2)
      have h2 := ((hmem x).1 (by simp [hx])).2.2
      rw [h1] at h2; cases h2
    subst hLn
    have hT : T1 P fl ro l S (fun _ => TxT P fl ro l S Q t) i oy R' a w := hT
    have hwant : Region.wanted oy (yielded l.toArray a.tmps) = true := by simp [Region.wanted, hgy]
    refine ⟨fun _ => hT.an.mono ?_, fun hc => by rw [hwant] at hc; cases hc⟩
    rintro v w' ⟨hS', hT'⟩
    refine ⟨hS', .inr ⟨?_, OT.pre R' t, good_pre hs.g _ (hs.RR.sublist hR') (fun x hx z hz => hs.Rt x (hR'.subset hx) z hz), ?_, fun k => ?_, ?_⟩⟩
    ·have e : (listed.setIfInBounds i true).getD i false = true := by rw [Array.getD_eq_getD_getElem?, Array.getElem?_setIfInBounds, if_pos rfl, if_pos (by omega)]; rfl
     exact e
    ·rw [OT.ids_pre]; simpa using hnd'
    ·rw [OT.ids_pre, hset k]
     have := hmem k
     simp only [List.nil_append] at this
     rw [this]
     constructor
     ·rintro ⟨h1, h2, h3⟩; exact ⟨h1, fun e => h2 e.symm, h3⟩
     ·rintro ⟨h1, h2, h3⟩; exact ⟨h1, fun e => h2 e.symm, h3⟩
    ·rw [TxT_pre]; exact hT'
   ·have hyk' : (listed.setIfInBounds i true).getD y false = false := (hset y).2 ⟨hiy, hyk⟩
    have hxi : ∀ x, x ∈ L' ++ R' ++ t.ids → x ∉ ancs l i := fun x hx hc => by
     have h1 := hancl x hc
     rw [((hmem x).1 hx).2.2] at h1; cases h1
    have him : i ∈ L' ++ R' ++ t.ids := (hmem i).2 ⟨hlt, hiy, hf⟩
    have hyi : y ∉ ancs l i := fun hc => by have := hancl y hc; rw [hyk] at this; cases this
    have hmem' : ∀ A B : List Nat, (∀ k, k ∈ A ++ B ++ t.ids ↔ i ≠ k ∧ k ∈ L' ++ R' ++ t.ids) → ∀ k, k ∈ A ++ B ++ t.ids ↔ k < l.length ∧ k ≠ y ∧ (listed.setIfInBounds i true).getD k false = false := fun A B hAB k => by
     rw [hAB k, hset k, hmem k]
     constructor
     ·rintro ⟨h1, h2, h3, h4⟩; exact ⟨h2, h3, h1, h4⟩
     ·rintro ⟨h1, h2, h3, h4⟩; exact ⟨h3, h1, h2, h4⟩
    have hit : i ∉ t.ids := fun hc => hyi (hs.ft i hc)
    rw [List.nodup_append, List.nodup_append] at hnd'
    obtain ⟨⟨hndL, hndR, hdLR⟩, _, _⟩ := hnd'
    rcases List.mem_append.1 him with him | him
    rotate_left
    ·exact absurd him hit
    rcases List.mem_append.1 him with hiL | hiR
    · -- one that y waits for
     have hfo : fl o = true := (hs.fL i (hL'.subset hiL)).1 o ho
     have hiR : i ∉ R' := fun hc => hdLR i hiL i hc rfl
     obtain ⟨L1, L2, rfl, n1, n2⟩ := split_at hiL hndL
     have hpw := hs.LL.sublist hL'
     rw [List.pairwise_append] at hpw
     obtain ⟨v, hv, ht⟩ := Tx.first hns ho hfo (R2 := L2) L1 a w (fun r hr p hp => ((hpw.2.2 r hr i List.mem_cons_self).apart (hxi r (by simp [hr])) hp ho).1) hSw hT
     have fin : I (listed.setIfInBounds i true) (a.put o.dst v) w := ⟨hSw, .inl ⟨hyk', L1 ++ L2, R', sub_of hL', hR', hmem' _ _ (fun k => by
      by_cases hik : i = k
      ·subst hik; simp [n1, n2, hiR, hit]
      ·simp [hik, Ne.symm hik]), ht⟩⟩
     refine ⟨fun hw => ?_, fun hw => ?_⟩
     ·unfold Eff
      rw [hv.1 hw w hSw]
      exact fin
     ·rw [hv.2 hw] at fin; exact fin
    ·have hiL : i ∉ L' := fun hc => hdLR i hc i hiR rfl
     obtain ⟨R1, R2, rfl, n1, n2⟩ := split_at hiR hndR
     have hpw := hs.RR.sublist hR'
     rw [List.pairwise_append] at hpw
     have hapL : ∀ r ∈ L', ∀ p : Oper, l[(r : Nat)]? = some p → Apart l p o ∧ fl p = true := fun r hr p hp => ⟨((hs.LR r (hL'.subset hr) i (hR'.subset hiR)).apart (hxi r (by simp [hr])) hp ho).1, (hs.fL r (hL'.subset hr)).1 p hp⟩
     have hyo : Apart l oy o := (hs.fR i (hR'.subset hiR)).2 oy o hy ho
     have hyd : (ancs l i).contains y = false := by
      cases hc : (ancs l i).contains y with
      | false => rfl
      | true => exact absurd (List.contains_iff_mem.1 hc) hyi
     have hmR : ∀ k, k ∈ L' ++ (R1 ++ R2) ++ t.ids ↔ i ≠ k ∧ k ∈ L' ++ (R1 ++ i :: R2) ++ t.ids := fun k => by
      by_cases hik : i = k
      ·subst hik; simp [n1, n2, hiL, hit]
      ·simp [hik, Ne.symm hik]
     have fin : ∀ v w', S w' → TxS P fl ro l S Q y oy L' (R1 ++ R2) t (a.put o.dst v) w' → I (listed.setIfInBounds i true) (a.put o.dst v) w' := fun v w' hS' ht => ⟨hS', .inl ⟨hyk', L', R1 ++ R2, hL', sub_of hR', hmem' _ _ hmR, ht⟩⟩
     cases hfo : fl o with
     | true =>
      obtain ⟨v, hv, ht⟩ := Tx.firstQ (Q' := fun _ => T1 P fl ro l S (fun _ => TxT P fl ro l S Q t) y oy (R1 ++ R2)) hns ho (fun a w hS h => T1.first hns ho hfo hsy hyo hyd R1 a w (fun r hr p hp => ((hpw.2.2 r hr i List.mem_cons_self).apart (hxi r (by simp [hr])) hp ho).1) hS h) L' a w (fun r hr p hp => (hapL r hr p hp).1) hSw hT
      refine ⟨fun hw => ?_, fun hw => ?_⟩
      ·unfold Eff
       rw [hv.1 hw w hSw]
       exact fin _ _ hSw ht
      ·rw [hv.2 hw] at ht; exact fin _ _ hSw ht
     | false =>
      obtain ⟨h1, h2⟩ := Tx.overS (Q' := fun _ => T1 P fl ro l S (fun _ => TxT P fl ro l S Q t) y oy (R1 ++ R2)) hns ho (fun a w hS h => T1.over hns ho hfo hsy hyd R1 a w (fun r hr => by
       have hrR : r ∈ R := hR'.subset (by simp [hr])
       refine ⟨?_, fun p hp => ?_⟩
       ·cases hc : (ancs l r).contains y with
        | false => rfl
        | true => exact absurd (List.contains_iff_mem.1 hc) (hs.fR r hrR).1
       ·obtain ⟨e1, e2⟩ := (hpw.2.2 r hr i List.mem_cons_self).apart (hxi r (by simp [hr])) hp ho
        exact ⟨e1, e2.resolve_right (by rw [hfo]; simp), (hs.fR r hrR).2 oy p hy hp⟩) hS h) L' a w hapL hSw hT
      exact ⟨fun hw => (h1 hw).mono fun v w' ⟨hS', ht⟩ => fin _ _ hS' ht, fun hw => fin _ _ hSw (h2 hw)⟩
  ·have hiy : i ≠ y := fun e => by subst e; rw [hyk] at hf; cases hf
   have hyk' : (listed.setIfInBounds i true).getD y false = true := by rw [getD_set_ne false hiy]; exact hyk
   have him : i ∈ t'.ids := (hallt i).2 ⟨hlt, hf⟩
   have hx : ∀ x ∈ t'.ids, x ∉ ancs l i := fun x hx hc => by
    have h1 := hancl x hc
    rw [((hallt x).1 hx).2] at h1; cases h1
   have hpend : ∀ ids : List Nat, ids.Perm (t'.ids.erase i) → ∀ k, k ∈ ids ↔ k < l.length ∧ (listed.setIfInBounds i true).getD k false = false := fun ids hp k => by
    rw [hp.mem_iff, hndt.mem_erase_iff, hallt k, hset k]
    constructor
    ·rintro ⟨h1, h2, h3⟩; exact ⟨h2, fun e => h1 e.symm, h3⟩
    ·rintro ⟨h1, h2, h3⟩; exact ⟨fun e => h2 e.symm, h1, h3⟩
   cases hfo : fl o with
   | true =>
    obtain ⟨v, hv, ht⟩ := TxT.first hns ho hfo hg hndt him hx a w hSw hT
    have he := ids_rm ho hfo hg
    have fin : I (listed.setIfInBounds i true) (a.put o.dst v) w := ⟨hSw, .inr ⟨hyk', t'.rm i, good_rm ho hfo hg, by rw [he]; exact hndt.erase i, hpend _ (by rw [he]), ht⟩⟩
    refine ⟨fun hw => ?_, fun hw => ?_⟩
    ·unfold Eff
     rw [hv.1 hw w hSw]
     exact fin
    ·rw [hv.2 hw] at fin; exact fin
   | false =>
    obtain ⟨t2, hp, hg', hO⟩ := TxT.over (P := P) (ro := ro) (Q := Q) (S := S) hns ho hfo hg hndt him hx (fun x hx => ((hallt x).1 hx).1)
    obtain ⟨h1, h2⟩ := hO a w hT
    have hnd2 : t2.ids.Nodup := hp.nodup_iff.2 (hndt.erase i)
    exact ⟨fun hw => (h1 hw).mono fun v w' ⟨hS', ht⟩ => ⟨hS', .inr ⟨hyk', t2, hg', hnd2, hpend _ hp, ht⟩⟩, fun hw => ⟨hSw, .inr ⟨hyk', t2, hg', hnd2, hpend _ hp, h2 hw⟩⟩⟩
 ·intro listed a w hsz hI hdone
  obtain ⟨_, hI⟩ := hI
  rcases hI with ⟨h1, _⟩ | ⟨_, t', _, _, hallt, hT⟩
  ·rw [hdone y hyl] at h1; cases h1
  ·have hno : ∀ k, k ∉ t'.ids := fun k hk => by
    obtain ⟨h1, h2⟩ := (hallt k).1 hk
    rw [hdone k h1] at h2; cases h2
   cases t' with
   | nil => exact hT
   | op i t => exact absurd List.mem_cons_self (hno i)
   | two i B j t => exact absurd List.mem_cons_self (hno i)
end

def okSlide (fl : Oper → Bool) (l : List Oper) (y : Nat) (L R : List Nat) (t : OT) : Bool :=
 okBack l && (match l[y]? with | some o => o.guard.isNone && !fl o | none => false) &&
 (L.all fun x => ((match l[x]? with | some p => fl p | none => true) && ((ancT l []).getD y []).contains x) && R.all (unB fl l (ancT l []) x)) && pwB (unB fl l (ancT l [])) L &&
 (R.all fun z => (!((ancT l []).getD z []).contains y && apB l y z) && t.ids.all (unB fl l (ancT l []) z)) && pwB (unB fl l (ancT l [])) R && (t.ids.all fun z => ((ancT l []).getD z []).contains y) && goodB fl l (ancT l []) t &&
 pwB (fun x y => !Nat.beq x y) (y :: (L ++ R ++ t.ids)) && (L ++ R ++ t.ids).all (fun k => Nat.blt k l.length) && (List.range l.length).all fun k => Nat.beq k y || (L ++ R ++ t.ids).contains k
def okRun (fl : Oper → Bool) (l : List Oper) (y k n : Nat) : Bool :=
 okBack l && (List.range' k n).all fun r => (match l[r]? with | some p => fl p | none => true) && apB l y r
def okEff (fl : Oper → Bool) (l : List Oper) (y : Nat) : Bool := match l[y]? with
 | some o => o.guard.isNone && !fl o
 | none => false
section
variable {fl : Oper → Bool} {l : List Oper} {y : Nat} {oy : Oper}
theorem okSlide_ok {L R : List Nat} {t : OT} (h : okSlide fl l y L R t = true) (hy : l[y]? = some oy) : okBack l = true ∧ oy.guard = none ∧ fl oy = false ∧ Slides fl l y L R t ∧ (L ++ R ++ t.ids).Nodup ∧ ∀ k, k ∈ L ++ R ++ t.ids ↔ k < l.length ∧ k ≠ y := by
 simp only [okSlide, Bool.and_eq_true] at h
 obtain ⟨⟨⟨⟨⟨⟨⟨⟨⟨⟨h1, h2⟩, h3⟩, h4⟩, h5⟩, h6⟩, h7⟩, h8⟩, h9⟩, h10⟩, h11⟩ := h
 rw [hy] at h2
 simp only [Bool.and_eq_true, Bool.not_eq_true', Option.isNone_iff_eq_none] at h2
 have hne := pwB_pw (R := fun x y => x ≠ y) (fun x y h e => by
  subst e
  rw [Nat.beq_refl] at h; cases h) h9
 rw [List.pairwise_cons] at hne
 refine ⟨h1, h2.1, h2.2, ⟨fun x hx => ?_, pwB_pw (fun x y h => unB_un h) h4, fun x hx z hz => ?_, fun z hz => ?_, pwB_pw (fun x y h => unB_un h) h6, fun z hz => List.contains_iff_mem.1 (List.all_eq_true.1 h7 z hz), fun x hx z hz => ?_, goodB_good h8⟩, hne.2, fun k => ⟨fun hk => ⟨Nat.le_of_ble_eq_true (List.all_eq_true.1 h10 k hk), fun e => ?_⟩, fun hk => ?_⟩⟩
 ·have := List.all_eq_true.1 h3 x hx
  simp only [Bool.and_eq_true] at this
  refine ⟨fun p hp => ?_, List.contains_iff_mem.1 this.1.2⟩
  have h12 := this.1.1
  rw [hp] at h12; exact h12
 ·have := List.all_eq_true.1 h3 x hx
  simp only [Bool.and_eq_true] at this
  exact unB_un (List.all_eq_true.1 this.2 z hz)
 ·have := List.all_eq_true.1 h5 z hz
  simp only [Bool.and_eq_true, Bool.not_eq_true'] at this
  refine ⟨fun hc => ?_, apB_ap this.1.2⟩
  have h12 := this.1.1
  have h13 : ((ancT l []).getD z []).contains y = true := List.contains_iff_mem.2 hc
  rw [h13] at h12; cases h12
 ·have := List.all_eq_true.1 h5 x hx
  simp only [Bool.and_eq_true] at this
  exact unB_un (List.all_eq_true.1 this.2 z hz)
 ·subst e; exact hne.1 k hk rfl
 ·have := List.all_eq_true.1 h11 k (List.mem_range.2 hk.1)
  simp only [Bool.or_eq_true] at this
  rcases this with h12 | h12
  ·exact absurd (Nat.eq_of_beq_eq_true h12) hk.2
  ·exact List.contains_iff_mem.1 h12
end

section
variable {P : Program} {fl : Oper → Bool} {ro : Option Nat} {N : Nat} {l : List Oper} {Q Q' : Exit → Act → World → Prop} {E : List (Nat × Value)} {ds : List Deferred} {b : World} {F F0 : List SP} {y : Nat} {oy : Oper}
theorem sd_tx {k n : Nat} (hn : Nat.ble (k + n) l.length = true) (h : SD P fl ro N F0 l k ((l.drop k).take n) Q E ds b F) {w : World} (H : Sat b F w) {a : Act} (hk : Kn N E a) (hd : a.defers = ds) (H0 : Sat b F0 w) : Tx P fl ro l (Sat b F0) Q (List.range' k n) a w := by
 have hn := Nat.le_of_ble_eq_true hn
 have hl : ((l.drop k).take n).length = n := by rw [List.length_take, List.length_drop]; omega
 have := h.run w H a hk hd H0 (fun j hj => by
  rw [hl] at hj
  rw [List.getElem?_take, if_pos hj, List.getElem?_drop])
 rw [hl] at this
 exact this
theorem sw_slide {S' : Type} (fl : Oper → Bool) (y k n : Nat) (R : List Nat) (t : OT) (F0 : List SP) [hm : Mixed P] {id : Nat} (hy : l[y]? = some oy) (hok : okSlide fl l y (List.range' k n) R t = true) (hn : Nat.ble (k + n) l.length = true) (he : Ent F F0)
  (Em : S' → List (Nat × Value)) (Fm : S' → List SP) (I : S' → Prop) (hE : ∀ s, I s → Ent (Fm s) F0) (tail : ∀ s, I s → ST P fl ro N F0 l t Q (Em s) ds b (Fm s))
  (h : (∀ s E' F', I s → Sub (Em s) E' → Ent F' (Fm s) → SN N (fun _ => TxT P fl ro l (Sat b F0) Q t) .normal E' ds b F') → SD P fl ro N F0 l k ((l.drop k).take n) (fun _ => T1 P fl ro l (Sat b F0) (fun _ => TxT P fl ro l (Sat b F0) Q t) y oy R) E ds b F) :
  SW P ro N (.region id l.toArray true) Q E ds b F := ⟨fun w H a hk hd => by
 obtain ⟨h1, h2, h3, h4, h5, h6⟩ := okSlide_ok hok hy
 have H' := H.ext (Fr.drew w)
 have J : ∀ s E' F', I s → Sub (Em s) E' → Ent F' (Fm s) → SN N (fun _ => TxT P fl ro l (Sat b F0) Q t) .normal E' ds b F' := fun s E' F' hI hs hF => ⟨fun w H a hk hd => (tail s hI).run w (H.ent hF) a (hk.sub hs) hd ((H.ent hF).ent (hE s hI))⟩
 exact region_slide h1 hy h2 h3 h4 h5 h6 hm.on (S := Sat b F0) (H'.ent he) (sd_tx hn (h J) H' hk hd (H'.ent he))⟩
theorem sn_t1run (k n : Nat) {R R2 : List Nat} (hy : l[y]? = some oy) (hR : List.range' k n ++ R2 = R) (hok : okRun fl l y k n = true) (hn : Nat.ble (k + n) l.length = true) (he : Ent F F0) (h : SD P fl ro N F0 l k ((l.drop k).take n) (fun _ => T1 P fl ro l (Sat b F0) Q y oy R2) E ds b F) :
  SN N (fun _ => T1 P fl ro l (Sat b F0) Q y oy R) .normal E ds b F := ⟨fun w H a hk hd => by
 subst hR
 simp only [okRun, Bool.and_eq_true] at hok
 have hns := okBack_ns hok.1
 exact T1.run hns (hns _ _ hy) _ _ _ (fun r hr p hp => by
  have := List.all_eq_true.1 hok.2 r hr
  simp only [hp, Bool.and_eq_true] at this
  exact ⟨this.1, apB_ap this.2 oy p hy hp⟩) (sd_tx hn h H hk hd (H.ent he))⟩
theorem an_of {R : List Nat} (hy : l[y]? = some oy) (hok : okEff fl l y = true) {S : World → Prop} {a : Act} {w : World} (h : Tx P fl ro l S (fun _ => Tx P fl ro l S Q R) [y] a w) : AN P fl ro l S Q oy R a w := by
 obtain ⟨o, ho, hw, _⟩ := h
 rw [hy] at ho
 cases ho
 simp only [okEff, hy, Bool.and_eq_true, Bool.not_eq_true', Option.isNone_iff_eq_none] at hok
 rcases hw (by simp [Region.wanted, hok.1]) with ⟨hf, _⟩ | ⟨_, he⟩
 ·rw [hok.2] at hf; cases hf
 ·exact he
theorem sn_t1eff {i : Nat} {R2 : List Nat} (hy : l[y]? = some oy) (hok : okEff fl l y = true) (hi : Nat.ble (i + 1) l.length = true) (hyl : Nat.ble (y + 1) l.length = true) (he : Ent F F0) (h1 : SD P fl ro N F0 l y ((l.drop y).take 1) (fun _ => Tx P fl ro l (Sat b F0) Q (i :: R2)) E ds b F)
  (h2 : SD P fl ro N F0 l i ((l.drop i).take 1) (fun _ => T1 P fl ro l (Sat b F0) Q y oy R2) E ds b F) : SN N (fun _ => T1 P fl ro l (Sat b F0) Q y oy (i :: R2)) .normal E ds b F := ⟨fun w H a hk hd =>
 ⟨an_of hy hok (sd_tx hyl h1 H hk hd (H.ent he)), fun _ => sd_tx hi h2 H hk hd (H.ent he)⟩⟩
theorem sn_t1nil (hy : l[y]? = some oy) (hok : okEff fl l y = true) (hyl : Nat.ble (y + 1) l.length = true) (he : Ent F F0) (h1 : SD P fl ro N F0 l y ((l.drop y).take 1) Q E ds b F) : SN N (fun _ => T1 P fl ro l (Sat b F0) Q y oy []) .normal E ds b F := ⟨fun w H a hk hd =>
 (fun h => by
  obtain ⟨o, ho, hw, _⟩ := h
  rw [hy] at ho
  cases ho
  simp only [okEff, hy, Bool.and_eq_true, Bool.not_eq_true', Option.isNone_iff_eq_none] at hok
  rcases hw (by simp [Region.wanted, hok.1]) with ⟨hf, _⟩ | ⟨_, he⟩
  ·rw [hok.2] at hf; cases hf
  ·exact he : Tx P fl ro l (Sat b F0) Q [y] a w → AN P fl ro l (Sat b F0) Q oy [] a w) (sd_tx hyl h1 H hk hd (H.ent he))⟩
theorem sn_tx (k n : Nat) {R : List Nat} (hR : List.range' k n = R) (hn : Nat.ble (k + n) l.length = true) (he : Ent F F0) (h : SD P fl ro N F0 l k ((l.drop k).take n) Q E ds b F) : SN N (fun _ => Tx P fl ro l (Sat b F0) Q R) .normal E ds b F := ⟨fun w H a hk hd => by
 subst hR; exact sd_tx hn h H hk hd (H.ent he)⟩
end
end Go.Eng
namespace Go.Eng
open Go Go.RowKit Go.MapKept
open Go.ChangeMaps (setBlock)

section
variable {P : Program} {tt : Nat → Option TI} [TT P tt] {ro : Option Nat} {N : Nat} {l rest : List Oper} {Q : Exit → Act → World → Prop} {E : List (Nat × Value)} {ds : List Deferred} {b : World} {F G : List SP}
 {op : Op} {ty : TypeId} {pos : String} {aft : Array Edge} {g : Option (Nat × Bool)} {v : Value}
 {α : Type} [DecidableEq α] {K : α → Value} {ok : α → Prop} {L : List (α × Value)} {a : α}
end
end Go.Eng
namespace Go.Eng
open Go Go.RowKit

section
variable {P : Program} {tt : Nat → Option TI} [TT P tt] {E : List (Nat × Value)} {ty : TypeId}
theorem fld_at {fs : Array Field} {fl : List (Nat × Nat)} (h : fs.toList.map (fun f => (f.type, f.offset)) = fl) {k ft fo : Nat} (hn : nth fl k = some (ft, fo)) : ∃ f : Field, fs[k]? = some f ∧ f.type = ft ∧ f.offset = fo := by
 rw [nth_eq, ← h, List.getElem?_map] at hn
 cases hf : fs.toList[k]? with
 | none => rw [hf] at hn; cases hn
 | some f =>
  rw [hf] at hn
  simp only [Option.map_some, Option.some.injEq, Prod.mk.injEq] at hn
  exact ⟨f, by rw [← Array.getElem?_toList]; exact hf, hn.1, hn.2⟩
theorem pu_fld {t k ft fo : Nat} {i j : TI} {x : Operand} {cs : List Value} {v : Value} (ht : tt t = some i) (hs : isSt i.desc = true) (hn : nth i.flds k = some (ft, fo)) (hft : tt ft = some j) (hagg : aggT j.desc = false) (hx : ev E x = some (.agg ⟨cs⟩)) (hv : nth cs fo = some v) : Pu P E (.field t x k) ty v := by
 intro w ρ o hρ ho _
 obtain ⟨fs, h1, h2⟩ := TT.run_st (P := P) ht hs
 obtain ⟨f, h3, rfl, rfl⟩ := fld_at h2 hn
 have hv' : cs[f.offset]? = some v := by rw [← nth_eq]; exact hv
 simp only [execOp, ho, hρ _ _ hx, Instr.field, Sem.run_bind, h1, Result.andThen, h3, asAgg, Sem.run_pure, part, run_isAgg hft, hagg]
 simp [hv']
end
end Go.Eng
namespace Go.Eng
open Go Go.RowKit

section
variable {P : Program} {tt : Nat → Option TI} [TT P tt] {ro : Option Nat} {N n : Nat} {l rest : List Oper} {Q : Exit → Act → World → Prop} {E E0 : List (Nat × Value)} {ds : List Deferred} {b : World} {F F0 : List SP} {fl : Oper → Bool}

inductive FR2 where
 | val (v : Value)
 | new (t : Nat) (zs : List Value)
 | rel (R : Value → List SP → Prop)
def okR (us : Nat → Value) (Ys : Nat → List SP) : Nat → List FR2 → Prop
 | _, [] => True
 | j, .rel R :: D => R (us j) (Ys j) ∧ okR us Ys (j + 1) D
 | j, _ :: D => okR us Ys (j + 1) D
variable {D : List FR2} {d : Nat} {op : Op} {ty : TypeId} {pos : String} {aft : Array Edge} {g : Option (Nat × Bool)} {v : Value}
theorem ent_post (A : List SP) : Ent (A ++ F) F := (ent_perm List.perm_append_comm).trans (ent_pre A)
end
end Go.Eng
namespace Go.Eng
open Go Go.RowKit
section
variable {P : Program} {tt : Nat → Option TI} [TT P tt] {ro : Option Nat} {N : Nat} {l : List Oper} {Q : Exit → Act → World → Prop} {E : List (Nat × Value)} {ds : List Deferred} {b : World} {F F0 : List SP} {fl : Oper → Bool}
variable {rest : List Oper} {G : List SP} {kk d : Nat} {op : Op} {ty : TypeId} {pos : String} {aft : Array Edge} {g : Option (Nat × Bool)} {v : Value}
 {α : Type} [DecidableEq α] {K : α → Value} {ok : α → Prop} {L : List (α × Value)} {a : α}
theorem sd_lookN (q : Nat) {t k e s1 s2 gm : Nat} {z1 : Value} {f1 : List (Nat × Nat)} {i : TI} {m x : Operand} (M : MK P k K ok) (ha : ok a) (hv : (getM a L).getD i.zero = v) (hg : wants l E g = some true) (hf : fl ⟨some d, op, ty, pos, aft, g⟩ = true) (hop : op = .lookup t m x false) (ht : tt t = some ⟨.map k e, s1, s2, z1, f1⟩) (he : tt e = some i) (hm : ev E m = some (.map (some gm))) (hx : ev E x = some (K a))
  (hF : nth F0 q = some (mp gm K ok L)) (hd : Nat.blt d N = true) (h : SD P fl ro N F0 l (kk + 1) rest Q ((d, v) :: E) ds b F) : SD P fl ro N F0 l kk (⟨some d, op, ty, pos, aft, g⟩ :: rest) Q E ds b F := by
 subst hop
 refine sd_rd hg (fun w H => ?_) hf hd h
 have := ex_look (ty := ty) (c := false) M ht he hm hx ha hF w H
 simpa [hv] using this
end
end Go.Eng
namespace Go.Eng
open Go Go.RowKit

theorem run_copyN {P : Program} {tt : Nat → Option TI} [TT P tt] {w : World} {dT sT ty elem s1 s2 g o dLen dCap m sz : Nat} {z1 : Value} {f1 : List (Nat × Nat)} {i : TI} {cur : Array Value} {t : TypeId} {vx : Value} {news : List Value}
  (ht : tt dT = some ⟨.slice elem, s1, s2, z1, f1⟩) (he : tt elem = some i) (hi : Nat.beq i.size sz = true) (hg : w.heap[g]? = some (.cells cur t (0, 0))) (hsl : SL w sz vx m news) (hfit : o + min m dLen * sz ≤ cur.size) (h1 : ∀ u ∈ news.take (min m dLen * sz), u.oneCell' = true) :
  (Builtin.copy_ #[dT, sT] ty #[.slice (some ⟨g, o, none⟩) dLen dCap, vx]).run P w = .ok (.int .i64 ((min m dLen : Nat) : Int)) (w.setRow g (spl cur.toList o (news.take (min m dLen * sz))).toArray) := by
 obtain ⟨j, hj, h2, _, _⟩ := TT.info (P := P) elem i he
 have hu := TT.und (P := P) dT _ ht rfl
 have hs1 := Nat.eq_of_beq_eq_true hi
 obtain ⟨A, c, rfl, hl, hc, hmx, hz0, hcell⟩ := hsl
 cases A with
 | none =>
  have hm0 : m = 0 := by have := hz0 rfl; omega
  subst hm0
  have hn : news = [] := List.eq_nil_of_length_eq_zero (by simpa using hl)
  subst hn
  obtain rfl : c = 0 := hz0 rfl
  have hr := run_copy_nil (P := P) w dT sT ty elem ⟨g, o, none⟩ dLen dCap hu (by simp [hj])
  rw [hr]
  have : spl cur.toList o (List.take (min 0 dLen * sz) []) = cur.toList := by simp [spl]
  rw [this, Array.toArray_toList, setRow_self w g cur t (0, 0) hg, Nat.zero_min]
  rfl
 | some a =>
  generalize hq : min m dLen = q at *
  have hq' : Nat.min m dLen = q := hq
  have hqm : q * sz ≤ m * sz := Nat.mul_le_mul_right _ (by omega)
  have htl : (news.take (q * sz)).length = q * sz := by rw [List.length_take]; omega
  have hnews : ∀ k u, (news.take (q * sz))[k]? = some u → w.cell? (a.add k) = some u := by
   intro k u hk
   have hlt : k < q * sz := by have := (List.getElem?_eq_some_iff.1 hk).1; omega
   have hk' : news[k]? = some u := by rw [List.getElem?_take, if_pos hlt] at hk; exact hk
   have hm0 : 0 < m := by
    rcases Nat.eq_zero_or_pos m with h0 | h0
    ·subst h0; omega
    ·exact h0
   obtain ⟨b, off', hab, hb, hcc⟩ := hcell hm0
   cases hab
   have ha : (⟨b, off', none⟩ : Addr).add k = ⟨b, off' + k, none⟩ := by unfold Addr.add; split <;> simp_all
   rw [ha, hcc k (by omega), hk']
  have hf := run_firstCells_some (P := P) w i.size q a m c (news.take (q * sz)) (by rw [htl, hs1]) hnews
  have hst := run_storeCells_at P g o t (news.take (q * sz)) 0 cur w hg (by rw [htl]; omega) h1
  have e9 : cur.toList.take o ++ news.take (q * sz) ++ cur.toList.drop (o + (news.take (q * sz)).length) = spl cur.toList o (news.take (q * sz)) := by simp [spl]
  simp only [Nat.add_zero] at hst
  rw [e9] at hst
  simp [Builtin.copy_, run_underlying hu, Builtin.lenOf, sizeOf, typeInfo, hj, h2, hq', hf, hst]
  rfl
section
variable {P : Program} {tt : Nat → Option TI} [TT P tt] {ro : Option Nat} {N : Nat} {l rest : List Oper} {Q : Exit → Act → World → Prop} {E : List (Nat × Value)} {ds : List Deferred} {b : World} {F F0 G : List SP} {fl : Oper → Bool} {kk : Nat}
 {d : Nat} {op : Op} {ty : TypeId} {pos : String} {aft : Array Edge} {g : Option (Nat × Bool)} {v : Value}
theorem ex_copyRowN {dT sT elem s1 s2 g' e sz n cap o0 o dLen dCap m at' : Nat} {z1 : Value} {f1 : List (Nat × Nat)} {i : TI} {x y : Operand} {vx : Value} {cs cs' news : List Value} (k : Nat) (ht : tt dT = some ⟨.slice elem, s1, s2, z1, f1⟩) (he : tt elem = some i) (hi : Nat.beq i.size sz = true)
  (hx : ev E x = some (.slice (some ⟨g', at', none⟩) dLen dCap)) (hy : ev E y = some vx) (hF : nth F k = some (row e sz (.slice (some ⟨g', o0, none⟩) n cap) n cs)) (hc : spl cs o (news.take (min m dLen * sz)) = cs') (hG : setF F k (row e sz (.slice (some ⟨g', o0, none⟩) n cap) n cs') = some G) (hat : at' = o0 + o) (hsl : ∀ w, Sat b F w → SL w sz vx m news) (hfit : o + min m dLen * sz ≤ cs.length) (h1 : ∀ u ∈ news.take (min m dLen * sz), u.oneCell' = true) :
  ∀ w, Sat b F w → ∃ w', Ex P E (.call ⟨.builtin .copy, ⟨[x, y]⟩, ⟨[dT, sT]⟩⟩) ty w (.int .i64 ((min m dLen : Nat) : Int)) w' ∧ Sat b G w' := fun w H => by
 subst hc
 subst hat
 have hnl : (news.take (min m dLen * sz)).length = min m dLen * sz := by
  obtain ⟨_, _, _, h, _⟩ := hsl w H
  have : min m dLen * sz ≤ m * sz := Nat.mul_le_mul_right _ (by omega)
  rw [List.length_take]; omega
 obtain ⟨h0, l0, hA⟩ := H.mem.get hF
 obtain ⟨hl, ⟨hv, _⟩ | ⟨g2, off2, cap2, cur, hv, hh, h2, h3, h4, h5⟩⟩ := hA
 ·cases hv
 simp only [Value.slice.injEq, Option.some.injEq, Addr.mk.injEq, true_and, and_true] at hv
 obtain ⟨⟨rfl, rfl⟩, rfl⟩ := hv
 have hw : w.heap[g']? = some (.cells cur e (0, 0)) := l0 _ _ hh
 have hle : n * sz ≤ cap * sz := Nat.mul_le_mul_right _ h2
 have hr := run_copyN (P := P) (ty := ty) (sT := sT) (dLen := dLen) (dCap := dCap) (o := o0 + o) ht he hi hw (hsl w H) (by omega) h1
 generalize hnw : news.take (min m dLen * sz) = nw at *
 generalize min m dLen = q at *
 refine ⟨w.setRow g' (spl cur.toList (o0 + o) nw).toArray, ?_, H.upd (B := row e sz (.slice (some ⟨g', o0, none⟩) n cap) n (spl cs o nw)) k hF (Fr.setRow w g' _) (fun h4' l4 hA4 => ?_) hG⟩
 ·intro ρ q hρ ho hty
  subst hty
  simp only [execOp, ho, resolve, invoke, builtin, Sem.run_bind, Sem.run_pure, Result.andThen]
  have e1 : Array.map ρ #[x, y] = #[.slice (some ⟨g', o0 + o, none⟩) dLen dCap, vx] := by simp [hρ _ _ hx, hρ _ _ hy]
  simp only [e1, hr]
 ·have h4g : h4' g' = some (.cells cur e (0, 0)) := by
   rcases hA4.2 with ⟨hv4, _⟩ | ⟨g5, off5, cap5, cur5, hv5, hh5, _⟩
   ·cases hv4
   ·simp only [Value.slice.injEq, Option.some.injEq, Addr.mk.injEq] at hv5
    obtain ⟨⟨rfl, _⟩, _⟩ := hv5
    have := (l4 _ _ hh5).symm.trans hw
    rw [hh5]; exact this
  refine ⟨fun q _ hq => by subst hq; rw [h4g]; simp, _, one_le (h := ph _) (setRow_heap w g' cur _ e _ hw), ⟨by rw [spl_length (by omega)]; exact hl, .inr ⟨g', o0, cap, _, rfl, one_at g' _, h2, h3, ?_, ?_⟩⟩, fun q hq => .inl (by rw [one_ne hq, h4g]; simp)⟩
  ·have hc9 : cur.toList.length = cur.size := Array.length_toList
   have hl9 : o0 + o + nw.length ≤ cur.toList.length := by omega
   rw [List.size_toArray, spl_length hl9, hc9]; exact h4
  ·show ((spl cur.toList (o0 + o) nw).drop o0).take (n * sz) = spl cs o nw
   have e1 : cs = (cur.toList.drop o0).take (n * sz) := h5.symm
   apply List.ext_getElem?
   intro j
   have hcl : cur.toList.length = cur.size := Array.length_toList
   simp only [spl, List.getElem?_take, List.getElem?_drop, List.getElem?_append, List.length_take, List.length_append, List.length_drop, e1]
   simp only [hcl]
   by_cases h1 : j < n * sz
   ·rw [if_pos h1]
    by_cases h2 : j < o
    ·rw [if_pos (by omega), if_pos (by omega), if_pos (by omega), if_pos h2, if_pos h1]
    ·by_cases h3 : j - o < nw.length
     ·rw [if_neg (by omega), if_pos (by omega), if_neg (by omega), if_pos (by omega)]
      congr 1; omega
     ·rw [if_neg (by omega), if_neg (by omega), if_neg (by omega), if_neg (by omega), if_pos (by omega)]
      congr 1; omega
   ·rw [if_neg h1, if_neg (by omega), if_neg (by omega), if_neg (by omega)]
theorem so_copyRowN {dT sT elem s1 s2 g' e sz n cap o0 dLen dCap m at' : Nat} {z1 : Value} {f1 : List (Nat × Nat)} {i : TI} {x y : Operand} {vx : Value} {cs cs' news : List Value} (k o : Nat) (hg : wants l E g = some true) (hd : Nat.blt d N = true) (hop : op = .call ⟨.builtin .copy, ⟨[x, y]⟩, ⟨[dT, sT]⟩⟩) (ht : tt dT = some ⟨.slice elem, s1, s2, z1, f1⟩) (he : tt elem = some i) (hi : Nat.beq i.size sz = true)
  (hx : ev E x = some (.slice (some ⟨g', at', none⟩) dLen dCap)) (hy : ev E y = some vx) (hF : nth F k = some (row e sz (.slice (some ⟨g', o0, none⟩) n cap) n cs)) (hc : spl cs o (news.take (min m dLen * sz)) = cs') (hG : setF F k (row e sz (.slice (some ⟨g', o0, none⟩) n cap) n cs') = some G) (hat : at' = o0 + o) (hsl : ∀ w, Sat b F w → SL w sz vx m news) (hfit : o + min m dLen * sz ≤ cs.length) (h1 : ∀ u ∈ news.take (min m dLen * sz), u.oneCell' = true)
  (h : SO P ro N l rest Q ((d, .int .i64 ((min m dLen : Nat) : Int)) :: E) ds b G) : SO P ro N l (⟨some d, op, ty, pos, aft, g⟩ :: rest) Q E ds b F := by
 subst hop; exact so_exv hg hd (ex_copyRowN k ht he hi hx hy hF hc hG hat hsl hfit h1) h
theorem sd_copyRowN {dT sT elem s1 s2 g' e sz n cap o0 dLen dCap m at' : Nat} {z1 : Value} {f1 : List (Nat × Nat)} {i : TI} {x y : Operand} {vx : Value} {cs cs' news : List Value} (k o : Nat) (hg : wants l E g = some true) (hf : fl ⟨some d, op, ty, pos, aft, g⟩ = false) (hd : Nat.blt d N = true) (hop : op = .call ⟨.builtin .copy, ⟨[x, y]⟩, ⟨[dT, sT]⟩⟩) (ht : tt dT = some ⟨.slice elem, s1, s2, z1, f1⟩) (he : tt elem = some i) (hi : Nat.beq i.size sz = true)
  (hx : ev E x = some (.slice (some ⟨g', at', none⟩) dLen dCap)) (hy : ev E y = some vx) (hF : nth F k = some (row e sz (.slice (some ⟨g', o0, none⟩) n cap) n cs)) (hc : spl cs o (news.take (min m dLen * sz)) = cs') (hG : setF F k (row e sz (.slice (some ⟨g', o0, none⟩) n cap) n cs') = some G) (hat : at' = o0 + o) (hsl : ∀ w, Sat b F w → SL w sz vx m news) (hfit : o + min m dLen * sz ≤ cs.length) (h1 : ∀ u ∈ news.take (min m dLen * sz), u.oneCell' = true) (hE : Ent G F0)
  (h : SD P fl ro N F0 l (kk + 1) rest Q ((d, .int .i64 ((min m dLen : Nat) : Int)) :: E) ds b G) : SD P fl ro N F0 l kk (⟨some d, op, ty, pos, aft, g⟩ :: rest) Q E ds b F := by
 subst hop
 constructor
 intro w H
 obtain ⟨w', h2, h3⟩ := ex_copyRowN (P := P) (ty := ty) k ht he hi hx hy hF hc hG hat hsl hfit h1 w H
 exact dw_ex hg hf h2 (h3.ent hE) hd (h.1 w' h3)
theorem so_appPZ {t ti e j m sz s1 s2 u1 u2 c : Nat} {q : IntKind} {z1 z2 : Value} {f1 f2 : List (Nat × Nat)} {i : TI} {x y : Operand} {A : Option Addr} {cs : List Value} (hg : wants l E g = some true) (hd : Nat.blt d N = true)
  (hop : op = .call ⟨.builtin .append, ⟨[x, y]⟩, ⟨[t, ti]⟩⟩) (ht : tt t = some ⟨.slice e, s1, s2, z1, f1⟩) (hti : tt ti = some ⟨.int q, u1, u2, z2, f2⟩) (he : tt e = some i) (hi : (Nat.beq i.zero.cells.size sz && Nat.beq i.size sz && Nat.ble i.bytes 2097152 && Nat.blt 0 sz) = true)
  (hx : ev E x = some (.slice A j c)) (hy : ev E y = some (.int .i64 m)) (hsl : ∀ w, Sat b F w → SL w sz (.slice A j c) j cs) (h0 : 0 < m) (hn : j + m ≤ 67108864) (hroom : c < j + m)
  (h : ∀ gg c' zs, zs.length = m * sz → SO P ro N l rest Q ((d, .slice (some ⟨gg, 0, none⟩) (j + m) c') :: E) ds b (row e sz (.slice (some ⟨gg, 0, none⟩) (j + m) c') (j + m) (cs ++ zs) :: F)) : SO P ro N l (⟨some d, op, ty, pos, aft, g⟩ :: rest) Q E ds b F := by
 simp only [Bool.and_eq_true] at hi
 obtain ⟨⟨⟨h1', h2'⟩, h3'⟩, h4'⟩ := hi
 have e1 := Nat.eq_of_beq_eq_true h1'; have e2 := Nat.eq_of_beq_eq_true h2'; have e3 := Nat.le_of_ble_eq_true h3'; have e4 : 0 < sz := Nat.le_of_ble_eq_true h4'
 subst e2
 constructor
 intro w H
 subst hop
 obtain ⟨k, hk, h2, h3, h4⟩ := TT.info (P := P) e i he
 have hu := TT.und (P := P) t _ ht rfl
 have hv := TT.und (P := P) ti _ hti rfl
 have hz : (Builtin.zeroCells i.zero.cells m).size = m * i.size := by rw [size_zeroCells, e1]
 have hrun : (Builtin.append_ #[t, ti] ty #[.slice A j c, .int .i64 m]).run P w =
   .ok (.slice (some ⟨w.heap.size, 0, none⟩) (j + m) (grownCap w (j + m) c e)) (w.drew.alloc (.cells (cs.toArray ++ Builtin.zeroCells i.zero.cells m ++ Builtin.zeroCells i.zero.cells (grownCap w (j + m) c e - (j + m))) e)) := by
  have hw : IntKind.i64.wrap (m : Int) = m := I64.wrap (by unfold I64; omega)
  have hbytes : (j + m) * i.bytes ≤ 140737488355328 := Nat.le_trans (Nat.mul_le_mul hn e3) (by decide)
  have hmb : m * i.bytes ≤ (j + m) * i.bytes := Nat.mul_le_mul_right _ (by omega)
  have a1 : ¬ ((m : Int) < 0) := by omega
  have a2 : ¬ (281474976710656 < (m : Int) * (i.bytes : Int)) := by
   have : ((m * i.bytes : Nat) : Int) ≤ 140737488355328 := by omega
   rw [Int.natCast_mul] at this
   omega
  have a3 : m ≠ 0 := by omega
  have a4 : i.size ≠ 0 := by omega
  have a5 : ¬ (9223372036854775807 < ((j : Int) + (m : Int))) := by omega
  have a6 : ¬ (281474976710656 < Builtin.nextslicecap (j + m) c * i.bytes) := by
   have := growslice_fits (need := j + m) (old := c) (by omega) hbytes
   omega
  have a7 : ¬ (j + m ≤ c) := by omega
  have hf : (Builtin.firstCells i.size j (.slice A j c)).run P w.drew = .ok cs.toArray w.drew := by
   obtain ⟨A', c', hv', hl, hc, hmx, hz0, hcell⟩ := hsl w.drew (H.ext (Fr.drew w))
   cases hv'
   cases A with
   | none =>
    have hj0 : j = 0 := by have := hz0 rfl; omega
    subst hj0
    have : cs = [] := List.eq_nil_of_length_eq_zero (by simpa using hl)
    subst this
    exact run_firstCells_none (P := P) _ i.size 0 0 c
   | some a =>
    refine run_firstCells_some (P := P) w.drew i.size j a j c cs hl fun k u hk => ?_
    have hlt : k < cs.length := (List.getElem?_eq_some_iff.1 hk).1
    have hj0 : 0 < j := by
     rcases Nat.eq_zero_or_pos j with h | h
     ·subst h; omega
     ·exact h
    obtain ⟨b', off', hab, hb, hcc⟩ := hcell hj0
    cases hab
    have ha : (⟨b', off', none⟩ : Addr).add k = ⟨b', off' + k, none⟩ := by unfold Addr.add; split <;> simp_all
    rw [ha, hcc k hlt, hk]
  have a8 : ¬ (m = 0 ∨ i.size = 0) := by omega
  simp [Builtin.append_, run_underlying hu, run_underlying hv, sizeOf, typeInfo, hk, h2, h3, h4, zeroValue, asInt, asIntOf, hw, a1, a2, a3, a4, a5, a6, a7, Question.forced, hf, newRow, grownCap]
  intro h9
  exact absurd (Nat.mul_eq_zero.1 h9) a8
 refine ow_ex (w' := w.drew.alloc (.cells (cs.toArray ++ Builtin.zeroCells i.zero.cells m ++ Builtin.zeroCells i.zero.cells (grownCap w (j + m) c e - (j + m))) e)) hg ?_ hd ((h w.heap.size (grownCap w (j + m) c e) (Builtin.zeroCells i.zero.cells m).toList (by rw [Array.length_toList, hz])).1 _ ?_)
 ·intro ρ o hρ hop' hty
  subst hty
  simp only [execOp, hop', resolve, invoke, builtin, Sem.run_bind, Sem.run_pure, Result.andThen]
  have e1 : Array.map ρ #[x, y] = #[.slice A j c, .int .i64 m] := by simp [hρ _ _ hx, hρ _ _ hy]
  simp only [e1, hrun]
 ·have hge := grownCap_ge w (j + m) c e
  have hgm := grownCap_le_maxLen w (j + m) c e (by unfold maxLen; omega)
  obtain ⟨_, _, _, hl, _⟩ := hsl w H
  refine H.newOat ((Fr.drew w).trans (Fr.alloc _ _)) ⟨by simp only [List.length_append, Array.length_toList, hz, hl, Nat.add_mul], .inr ⟨w.heap.size, 0, _, _, rfl, Nat.le_refl _, heap_alloc_new w.drew _, hge, hgm, ?_, ?_⟩⟩
  ·simp only [Array.size_append, List.size_toArray, size_zeroCells, e1, hl, ← Nat.add_mul, Nat.zero_add]
   apply Nat.le_of_eq
   congr 1
   omega
  ·simp only [Array.toList_append, List.drop_zero]
   refine List.take_left' ?_
   simp only [List.length_append, Array.length_toList, List.size_toArray, hz, hl, Nat.add_mul]
theorem so_rowExt {e sz n g' off cap : Nat} {cs : List Value} {Gf : List Value → List SP} (k : Nat) (hk : nth F k = some (row e sz (.slice (some ⟨g', off, none⟩) n cap) n cs)) (hn : n < cap) (hG : ∀ zs, setF F k (row e sz (.slice (some ⟨g', off, none⟩) (n + 1) cap) (n + 1) (cs ++ zs)) = some (Gf zs))
  (h : ∀ zs, zs.length = sz → SO P ro N l rest Q E ds b (Gf zs)) : SO P ro N l rest Q E ds b F := ⟨fun w H => by
 obtain ⟨h0, l0, hA⟩ := H.mem.get hk
 obtain ⟨hl, ⟨hv, _⟩ | ⟨g2, off2, cap2, cur, hv, hh, h2, h3, h4, h5⟩⟩ := hA
 ·cases hv
 simp only [Value.slice.injEq, Option.some.injEq, Addr.mk.injEq, true_and, and_true] at hv
 obtain ⟨⟨rfl, rfl⟩, rfl⟩ := hv
 have hle : (n + 1) * sz ≤ cap * sz := Nat.mul_le_mul_right _ hn
 have hle2 : (n + 1) * sz = n * sz + sz := by rw [Nat.add_mul, Nat.one_mul]
 have hcl : cur.toList.length = cur.size := Array.length_toList
 let zs := (cur.toList.drop (off + n * sz)).take sz
 have hz : zs.length = sz := by
  show ((cur.toList.drop (off + n * sz)).take sz).length = sz
  rw [List.length_take, List.length_drop]; omega
 refine (h zs hz).1 w (H.upd k hk (Fr.refl (fun _ => False) w) (fun h4' l4 hA4 => ?_) (hG zs))
 have hw : w.heap[g']? = some (.cells cur e (0, 0)) := l0 _ _ hh
 refine ⟨fun _ _ hq => hq.elim, h4', l4, ⟨by rw [List.length_append, hl, hz, hle2], .inr ⟨g', off, cap, cur, rfl, ?_, by omega, h3, h4, ?_⟩⟩, fun q hq => .inl hq⟩
 ·rcases hA4.2 with ⟨hv4, _⟩ | ⟨g5, off5, cap5, cur5, hv5, hh5, _⟩
  ·cases hv4
  ·simp only [Value.slice.injEq, Option.some.injEq, Addr.mk.injEq] at hv5
   obtain ⟨⟨rfl, _⟩, _⟩ := hv5
   have := (l4 _ _ hh5).symm.trans hw
   rw [hh5]; exact this
 ·show (cur.toList.drop off).take ((n + 1) * sz) = cs ++ (cur.toList.drop (off + n * sz)).take sz
  rw [hle2, List.take_add, h5, List.drop_drop]⟩
theorem Sat.ne_row {w : World} (h : Sat b F w) {i j g' g2 t off e sz n cap : Nat} {cs ds : List Value} (hi : nth F i = some (pt g' t cs)) (hj : nth F j = some (row e sz (.slice (some ⟨g2, off, none⟩) n cap) n ds)) (hij : i ≠ j) : g' ≠ g2 := by
 rintro rfl
 obtain ⟨H, a, b', c⟩ := h.mem
 have h1 : H i g' ≠ none := by rw [show H i g' = _ from c i _ hi]; simp
 have h2 : H j g' ≠ none := by
  rcases (c j _ hj).2 with ⟨hv, _⟩ | ⟨g5, off5, cap5, cur5, hv, hh, _⟩
  ·cases hv
  ·simp only [Value.slice.injEq, Option.some.injEq, Addr.mk.injEq] at hv
   obtain ⟨⟨rfl, _⟩, _⟩ := hv
   rw [hh]; simp
 rcases b' i j hij g' with h3 | h3
 ·exact h1 h3
 ·exact h2 h3
theorem so_ovl {f : FuncId} {fn : Func} {tS tR e' s1 s2 ga oa la ca gb ob lb cb t1 e2 sz off n cap : Nat} {z1 : Value} {f1 : List (Nat × Nat)} {i : TI} {cs1 cs2 : List Value} (k1 k2 : Nat) (hg : wants l E g = some true) (hx : callOf E op = some (f, [.slice (some ⟨ga, oa, none⟩) la ca, .slice (some ⟨gb, ob, none⟩) lb cb])) (hd : Nat.blt d N = true)
  (hf : P.funcs[f]? = some fn) (hname : (fn.name == "runtime.NumGoroutine") = false) (hb : fn.body.isNone = true) (hn : Extern.findNext fn = none) (he : Extern.find fn = some (Extern.SlicesOverlaps.overlaps #[tS, tS] #[tR])) (ht : tt tS = some ⟨.slice e', s1, s2, z1, f1⟩) (hel : tt e' = some i)
  (hF1 : nth F k1 = some (pt ga t1 cs1)) (hF2 : nth F k2 = some (row e2 sz (.slice (some ⟨gb, off, none⟩) n cap) n cs2)) (hk : Nat.beq k1 k2 = false) (h0 : 0 < cap * sz)
  (h : SO P ro N l rest Q ((d, .bool false) :: E) ds b F) : SO P ro N l (⟨some d, op, ty, pos, aft, g⟩ :: rest) Q E ds b F := by
 refine so_extern hg hx hd (fun w H => ?_) h
 have B := H.blk hF1
 have hne := H.ne_row hF1 hF2 (by intro hc; subst hc; rw [Nat.beq_refl] at hk; cases hk)
 obtain ⟨h1, l1, hA⟩ := H.mem.get hF2
 have hrow : ∃ cur : Array Value, w.heap[gb]? = some (.cells cur e2 (0, 0)) ∧ 0 < cur.size := by
  rcases hA.2 with ⟨hv, _⟩ | ⟨g5, off5, cap5, cur5, hv, hh, _, _, h4, _⟩
  ·cases hv
  ·simp only [Value.slice.injEq, Option.some.injEq, Addr.mk.injEq] at hv
   obtain ⟨⟨rfl, rfl, _⟩, _, rfl⟩ := hv
   exact ⟨cur5, l1 _ _ hh, by omega⟩
 obtain ⟨cur, hw, hcs⟩ := hrow
 rw [run_callFunc_extern hf hname hb hn he]
 have hr := Go.Lib.run_overlaps_apart (P := P) w tS tR e' (TT.und (P := P) tS _ ht rfl) i.size (fun w => TT.run_size (P := P) hel w) ⟨ga, oa, none⟩ ⟨gb, ob, none⟩ la ca lb cb hne t1 e2 cs1.length cur.size (by simp [World.shape?, show w.heap[ga]? = _ from B]) (by simp [World.shape?, hw]) (by omega) (B.frozen _) (B.frozen _)
 show Result.andThen ((Extern.SlicesOverlaps.overlaps #[tS, tS] #[tR] #[.slice (some ⟨ga, oa, none⟩) la ca, .slice (some ⟨gb, ob, none⟩) lb cb]).run P w) _ = _
 rw [hr]
 rfl
end
end Go.Eng
namespace Go.Eng
open Go Go.RowKit

section
variable {P : Program} {ro : Option Nat} {l : List Oper} {Q Q' : Exit → Act → World → Prop} {S : World → Prop} {fl : Oper → Bool} {y : Nat} {oy : Oper}
def Wy (l : List Oper) (oy : Oper) (a : Act) : Prop := Region.wanted oy (yielded l.toArray a.tmps) = true
def SlI (P : Program) (fl : Oper → Bool) (ro : Option Nat) (l : List Oper) (S : World → Prop) (Q : Exit → Act → World → Prop) (y : Nat) (oy : Oper) (L R : List Nat) (t : OT) (listed : Array Bool) (a : Act) (w : World) : Prop := S w ∧ ((listed.getD y false = false ∧ Wy l oy a ∧ ∃ L' R' : List Nat, L'.Sublist L ∧ R'.Sublist R ∧ (∀ k, k ∈ L' ++ R' ++ t.ids ↔ k < l.length ∧ k ≠ y ∧ listed.getD k false = false) ∧ TxS P fl ro l S Q y oy L' R' t a w) ∨
  (listed.getD y false = true ∧ ∃ t : OT, Good fl l t ∧ t.ids.Nodup ∧ (∀ k, k ∈ t.ids ↔ k < l.length ∧ listed.getD k false = false) ∧ TxT P fl ro l S Q t a w))
theorem slide_step {L R : List Nat} {t : OT} (hb : okBack l = true) (hy : l[y]? = some oy) (hs : Slides fl l y L R t) (hLw : ∀ x ∈ L, ∀ o : Oper, l[(x : Nat)]? = some o → ∀ (a : Act) v, Region.wanted oy (yielded l.toArray (a.put o.dst v).tmps) = Region.wanted oy (yielded l.toArray a.tmps)) (hnd : (L ++ R ++ t.ids).Nodup) :
  ∀ (listed : Array Bool) (a : Act) (w : World) (i : Nat) (o : Oper), listed.size = l.length → Closed l listed → SlI P fl ro l S Q y oy L R t listed a w → l[i]? = some o → listed.getD i false = false →
   (∀ e ∈ o.after.toList, Region.binds .any e = true → listed.getD e.on false = true) → Owes P ro l (SlI P fl ro l S Q y oy L R t) listed i o a w := by
 have hns := okBack_ns hb
 have hsy := hns _ _ hy
 have hyl : y < l.length := (List.getElem?_eq_some_iff.1 hy).1
 intro listed a w i o hsz hcl hI ho hf hdeps
 obtain ⟨hSw, hI⟩ := hI
 have hlt : i < l.length := (List.getElem?_eq_some_iff.1 ho).1
 have hancl : ∀ r ∈ ancs l i, listed.getD r false = true := fun r hr => ancT_sound hcl l [] [] rfl rfl (fun i o h => by simp at h) i o ho hdeps r hr
 have hset : ∀ k, (listed.setIfInBounds i true).getD k false = false ↔ i ≠ k ∧ listed.getD k false = false := fun k => by
  by_cases hik : i = k
  ·subst hik
   have e : (listed.setIfInBounds i true).getD i false = true := by rw [Array.getD_eq_getD_getElem?, Array.getElem?_setIfInBounds, if_pos rfl, if_pos (by omega)]; rfl
   rw [e]; simp
  ·rw [getD_set_ne false hik]; simp [hik]
 rcases hI with ⟨hyk, hWy, L', R', hL', hR', hmem, hT⟩ | ⟨hyk, t', hg, hndt, hallt, hT⟩
 ·have hnd' : (L' ++ R' ++ t.ids).Nodup := ((hL'.append hR').append (List.Sublist.refl _)).nodup hnd
  by_cases hiy : i = y
  ·subst hiy
   rw [hy] at ho; cases ho
   have hLn : L' = [] := by
    cases hL2 : L' with
    | nil => rfl
    | cons x L2 =>
     have hx : x ∈ L' := by rw [hL2]; exact List.mem_cons_self
     have h1 := hancl x ((hs.fL x (hL'.subset hx)).2)
     have h2 := ((hmem x).1 (by simp [hx])).2.2
     rw [h1] at h2; cases h2
   subst hLn
   have hT : T1 P fl ro l S (fun _ => TxT P fl ro l S Q t) i oy R' a w := hT
   have hwant : Region.wanted oy (yielded l.toArray a.tmps) = true := hWy
   refine ⟨fun _ => hT.an.mono ?_, fun hc => by rw [hwant] at hc; cases hc⟩
   rintro v w' ⟨hS', hT'⟩
   refine ⟨hS', .inr ⟨?_, OT.pre R' t, good_pre hs.g _ (hs.RR.sublist hR') (fun x hx z hz => hs.Rt x (hR'.subset hx) z hz), ?_, fun k => ?_, ?_⟩⟩
   ·have e : (listed.setIfInBounds i true).getD i false = true := by rw [Array.getD_eq_getD_getElem?, Array.getElem?_setIfInBounds, if_pos rfl, if_pos (by omega)]; rfl
    exact e
   ·rw [OT.ids_pre]; simpa using hnd'
   ·rw [OT.ids_pre, hset k]
    have := hmem k
    simp only [List.nil_append] at this
    rw [this]
    constructor
    ·rintro ⟨h1, h2, h3⟩; exact ⟨h1, fun e => h2 e.symm, h3⟩
    ·rintro ⟨h1, h2, h3⟩; exact ⟨h1, fun e => h2 e.symm, h3⟩
   ·rw [TxT_pre]; exact hT'
  ·have hyk' : (listed.setIfInBounds i true).getD y false = false := (hset y).2 ⟨hiy, hyk⟩
   have hxi : ∀ x, x ∈ L' ++ R' ++ t.ids → x ∉ ancs l i := fun x hx hc => by
    have h1 := hancl x hc
    rw [((hmem x).1 hx).2.2] at h1; cases h1
   have him : i ∈ L' ++ R' ++ t.ids := (hmem i).2 ⟨hlt, hiy, hf⟩
   have hyi : y ∉ ancs l i := fun hc => by have := hancl y hc; rw [hyk] at this; cases this
   have hmem' : ∀ A B : List Nat, (∀ k, k ∈ A ++ B ++ t.ids ↔ i ≠ k ∧ k ∈ L' ++ R' ++ t.ids) → ∀ k, k ∈ A ++ B ++ t.ids ↔ k < l.length ∧ k ≠ y ∧ (listed.setIfInBounds i true).getD k false = false := fun A B hAB k => by
    rw [hAB k, hset k, hmem k]
    constructor
    ·rintro ⟨h1, h2, h3, h4⟩; exact ⟨h2, h3, h1, h4⟩
    ·rintro ⟨h1, h2, h3, h4⟩; exact ⟨h3, h1, h2, h4⟩
   have hit : i ∉ t.ids := fun hc => hyi (hs.ft i hc)
   rw [List.nodup_append, List.nodup_append] at hnd'
   obtain ⟨⟨hndL, hndR, hdLR⟩, _, _⟩ := hnd'
   rcases List.mem_append.1 him with him | him
   rotate_left
   ·exact absurd him hit
   rcases List.mem_append.1 him with hiL | hiR
   · -- one that y waits for
    have hfo : fl o = true := (hs.fL i (hL'.subset hiL)).1 o ho
    have hiR : i ∉ R' := fun hc => hdLR i hiL i hc rfl
    obtain ⟨L1, L2, rfl, n1, n2⟩ := split_at hiL hndL
    have hpw := hs.LL.sublist hL'
    rw [List.pairwise_append] at hpw
    obtain ⟨v, hv, ht⟩ := Tx.first hns ho hfo (R2 := L2) L1 a w (fun r hr p hp => ((hpw.2.2 r hr i List.mem_cons_self).apart (hxi r (by simp [hr])) hp ho).1) hSw hT
    have fin : SlI P fl ro l S Q y oy L R t (listed.setIfInBounds i true) (a.put o.dst v) w := ⟨hSw, .inl ⟨hyk', (hLw i (hL'.subset hiL) o ho a v).trans hWy, L1 ++ L2, R', sub_of hL', hR', hmem' _ _ (fun k => by
     by_cases hik : i = k
     ·subst hik; simp [n1, n2, hiR, hit]
     ·simp [hik, Ne.symm hik]), ht⟩⟩
    refine ⟨fun hw => ?_, fun hw => ?_⟩
    ·unfold Eff
     rw [hv.1 hw w hSw]
     exact fin
    ·rw [hv.2 hw] at fin; exact fin
   ·have hiL : i ∉ L' := fun hc => hdLR i hc i hiR rfl
    obtain ⟨R1, R2, rfl, n1, n2⟩ := split_at hiR hndR
    have hpw := hs.RR.sublist hR'
    rw [List.pairwise_append] at hpw
    have hapL : ∀ r ∈ L', ∀ p : Oper, l[(r : Nat)]? = some p → Apart l p o ∧ fl p = true := fun r hr p hp => ⟨((hs.LR r (hL'.subset hr) i (hR'.subset hiR)).apart (hxi r (by simp [hr])) hp ho).1, (hs.fL r (hL'.subset hr)).1 p hp⟩
    have hyo : Apart l oy o := (hs.fR i (hR'.subset hiR)).2 oy o hy ho
    have hyd : (ancs l i).contains y = false := by
     cases hc : (ancs l i).contains y with
     | false => rfl
     | true => exact absurd (List.contains_iff_mem.1 hc) hyi
    have hmR : ∀ k, k ∈ L' ++ (R1 ++ R2) ++ t.ids ↔ i ≠ k ∧ k ∈ L' ++ (R1 ++ i :: R2) ++ t.ids := fun k => by
     by_cases hik : i = k
     ·subst hik; simp [n1, n2, hiL, hit]
     ·simp [hik, Ne.symm hik]
    have fin : ∀ v w', S w' → TxS P fl ro l S Q y oy L' (R1 ++ R2) t (a.put o.dst v) w' → SlI P fl ro l S Q y oy L R t (listed.setIfInBounds i true) (a.put o.dst v) w' := fun v w' hS' ht => ⟨hS', .inl ⟨hyk', (want_put hyo.symm).trans hWy, L', R1 ++ R2, hL', sub_of hR', hmem' _ _ hmR, ht⟩⟩
    cases hfo : fl o with
    | true =>
     obtain ⟨v, hv, ht⟩ := Tx.firstQ (Q' := fun _ => T1 P fl ro l S (fun _ => TxT P fl ro l S Q t) y oy (R1 ++ R2)) hns ho (fun a w hS h => T1.first hns ho hfo hsy hyo hyd R1 a w (fun r hr p hp => ((hpw.2.2 r hr i List.mem_cons_self).apart (hxi r (by simp [hr])) hp ho).1) hS h) L' a w (fun r hr p hp => (hapL r hr p hp).1) hSw hT
     refine ⟨fun hw => ?_, fun hw => ?_⟩
     ·unfold Eff
      rw [hv.1 hw w hSw]
      exact fin _ _ hSw ht
     ·rw [hv.2 hw] at ht; exact fin _ _ hSw ht
    | false =>
     obtain ⟨h1, h2⟩ := Tx.overS (Q' := fun _ => T1 P fl ro l S (fun _ => TxT P fl ro l S Q t) y oy (R1 ++ R2)) hns ho (fun a w hS h => T1.over hns ho hfo hsy hyd R1 a w (fun r hr => by
      have hrR : r ∈ R := hR'.subset (by simp [hr])
      refine ⟨?_, fun p hp => ?_⟩
      ·cases hc : (ancs l r).contains y with
       | false => rfl
       | true => exact absurd (List.contains_iff_mem.1 hc) (hs.fR r hrR).1
      ·obtain ⟨e1, e2⟩ := (hpw.2.2 r hr i List.mem_cons_self).apart (hxi r (by simp [hr])) hp ho
       exact ⟨e1, e2.resolve_right (by rw [hfo]; simp), (hs.fR r hrR).2 oy p hy hp⟩) hS h) L' a w hapL hSw hT
     exact ⟨fun hw => (h1 hw).mono fun v w' ⟨hS', ht⟩ => fin _ _ hS' ht, fun hw => fin _ _ hSw (h2 hw)⟩
 ·have hiy : i ≠ y := fun e => by subst e; rw [hyk] at hf; cases hf
  have hyk' : (listed.setIfInBounds i true).getD y false = true := by rw [getD_set_ne false hiy]; exact hyk
  have him : i ∈ t'.ids := (hallt i).2 ⟨hlt, hf⟩
  have hx : ∀ x ∈ t'.ids, x ∉ ancs l i := fun x hx hc => by
   have h1 := hancl x hc
   rw [((hallt x).1 hx).2] at h1; cases h1
  have hpend : ∀ ids : List Nat, ids.Perm (t'.ids.erase i) → ∀ k, k ∈ ids ↔ k < l.length ∧ (listed.setIfInBounds i true).getD k false = false := fun ids hp k => by
   rw [hp.mem_iff, hndt.mem_erase_iff, hallt k, hset k]
   constructor
   ·rintro ⟨h1, h2, h3⟩; exact ⟨h2, fun e => h1 e.symm, h3⟩
   ·rintro ⟨h1, h2, h3⟩; exact ⟨fun e => h2 e.symm, h1, h3⟩
  cases hfo : fl o with
  | true =>
   obtain ⟨v, hv, ht⟩ := TxT.first hns ho hfo hg hndt him hx a w hSw hT
   have he := ids_rm ho hfo hg
   have fin : SlI P fl ro l S Q y oy L R t (listed.setIfInBounds i true) (a.put o.dst v) w := ⟨hSw, .inr ⟨hyk', t'.rm i, good_rm ho hfo hg, by rw [he]; exact hndt.erase i, hpend _ (by rw [he]), ht⟩⟩
   refine ⟨fun hw => ?_, fun hw => ?_⟩
   ·unfold Eff
    rw [hv.1 hw w hSw]
    exact fin
   ·rw [hv.2 hw] at fin; exact fin
  | false =>
   obtain ⟨t2, hp, hg', hO⟩ := TxT.over (P := P) (ro := ro) (Q := Q) (S := S) hns ho hfo hg hndt him hx (fun x hx => ((hallt x).1 hx).1)
   obtain ⟨h1, h2⟩ := hO a w hT
   have hnd2 : t2.ids.Nodup := hp.nodup_iff.2 (hndt.erase i)
   exact ⟨fun hw => (h1 hw).mono fun v w' ⟨hS', ht⟩ => ⟨hS', .inr ⟨hyk', t2, hg', hnd2, hpend _ hp, ht⟩⟩, fun hw => ⟨hSw, .inr ⟨hyk', t2, hg', hnd2, hpend _ hp, h2 hw⟩⟩⟩
theorem slide_end {L R : List Nat} {t : OT} (hy : l[y]? = some oy) : ∀ (listed : Array Bool) (a : Act) (w : World), listed.size = l.length → SlI P fl ro l S Q y oy L R t listed a w → (∀ i, i < l.length → listed.getD i false = true) → Q .normal a w := by
 have hyl : y < l.length := (List.getElem?_eq_some_iff.1 hy).1
 intro listed a w hsz hI hdone
 obtain ⟨_, hI⟩ := hI
 rcases hI with ⟨h1, _⟩ | ⟨_, t', _, _, hallt, hT⟩
 ·rw [hdone y hyl] at h1; cases h1
 ·have hno : ∀ k, k ∉ t'.ids := fun k hk => by
   obtain ⟨h1, h2⟩ := (hallt k).1 hk
   rw [hdone k h1] at h2; cases h2
  cases t' with
  | nil => exact hT
  | op i t => exact absurd List.mem_cons_self (hno i)
  | two i B j t => exact absurd List.mem_cons_self (hno i)
structure Pres (fl : Oper → Bool) (l : List Oper) (y : Nat) (K : List Nat) (Pf : List Nat) : Prop where
 pp : Pf.Pairwise (Un fl l)
 pa : ∀ x ∈ Pf, ∀ z, (z = y ∨ z ∈ K) → x ∈ ancs l z
 nd : (Pf ++ K).Nodup
 yp : y ∉ Pf
 all : ∀ k, k ∈ Pf ++ K ↔ k < l.length ∧ k ≠ y
theorem region_preslide {Pf L R : List Nat} {t : OT} (hb : okBack l = true) (hy : l[y]? = some oy) (hs : Slides fl l y L R t) (hLw : ∀ x ∈ L, ∀ o : Oper, l[(x : Nat)]? = some o → ∀ (a : Act) v, Region.wanted oy (yielded l.toArray (a.put o.dst v).tmps) = Region.wanted oy (yielded l.toArray a.tmps)) (hp : Pres fl l y (L ++ R ++ t.ids) Pf) (hP0 : Pf ≠ []) (hm : P.follows .mixedOrders = true) {id : Nat} {a : Act} {w : World} (hS : S w.drew)
  (h : Tx P fl ro l S (fun _ a w => Wy l oy a ∧ TxS P fl ro l S Q y oy L R t a w) Pf a w.drew) : (Code.region id l.toArray true).wpIn (FR ro) 0 P Q a w := by
 have hns := okBack_ns hb
 have hyl : y < l.length := (List.getElem?_eq_some_iff.1 hy).1
 have hndK : (L ++ R ++ t.ids).Nodup := (List.nodup_append.1 hp.nd).2.1
 have hdis : ∀ x ∈ Pf, x ∉ L ++ R ++ t.ids := fun x hx hc => (List.nodup_append.1 hp.nd).2.2 x hx x hc rfl
 let J : Array Bool → Act → World → Prop := fun listed a w => (S w ∧ listed.getD y false = false ∧ ∃ P' : List Nat, P' ≠ [] ∧ P'.Sublist Pf ∧ (∀ k, k ∈ P' ↔ k ∈ Pf ∧ listed.getD k false = false) ∧ (∀ k ∈ L ++ R ++ t.ids, listed.getD k false = false) ∧ Tx P fl ro l S (fun _ a w => Wy l oy a ∧ TxS P fl ro l S Q y oy L R t a w) P' a w) ∨
  ((∀ k ∈ Pf, listed.getD k false = true) ∧ SlI P fl ro l S Q y oy L R t listed a w)
 refine region_inv hb hm J ?_ ?_ ?_
 ·have e : ∀ k, (Array.replicate l.length false).getD k false = false := fun k => by rw [Array.getD_eq_getD_getElem?, Array.getElem?_replicate]; split <;> rfl
  exact .inl ⟨hS, e y, Pf, hP0, List.Sublist.refl _, fun k => by rw [e k]; simp, fun k _ => e k, h⟩
 ·intro listed a w i o hsz hcl hJ ho hf hdeps
  have hlt : i < l.length := (List.getElem?_eq_some_iff.1 ho).1
  have hancl : ∀ r ∈ ancs l i, listed.getD r false = true := fun r hr => ancT_sound hcl l [] [] rfl rfl (fun i o h => by simp at h) i o ho hdeps r hr
  have hset : ∀ k, (listed.setIfInBounds i true).getD k false = false ↔ i ≠ k ∧ listed.getD k false = false := fun k => by
   by_cases hik : i = k
   ·subst hik
    have e : (listed.setIfInBounds i true).getD i false = true := by rw [Array.getD_eq_getD_getElem?, Array.getElem?_setIfInBounds, if_pos rfl, if_pos (by omega)]; rfl
    rw [e]; simp
   ·rw [getD_set_ne false hik]; simp [hik]
  rcases hJ with ⟨hSw, hyk, P', hP', hsub, hmem, hK, hT⟩ | ⟨hPf, hI⟩
  ·have hiP : i ∈ P' := by
    refine (hmem i).2 ⟨Classical.byContradiction fun hc => ?_, hf⟩
    cases hP2 : P' with
    | nil => exact hP' hP2
    | cons x P2 =>
     have hx := (hmem x).1 (by rw [hP2]; exact List.mem_cons_self)
     have hz : i = y ∨ i ∈ L ++ R ++ t.ids := by
      by_cases hiy : i = y
      ·exact .inl hiy
      ·right
       rcases List.mem_append.1 ((hp.all i).2 ⟨hlt, hiy⟩) with h1 | h1
       ·exact absurd h1 hc
       ·exact h1
     have := hancl x (hp.pa x hx.1 i hz)
     rw [hx.2] at this; cases this
   have hiPf := hsub.subset hiP
   have hiy : i ≠ y := fun e => hp.yp (e ▸ hiPf)
   have hndP : P'.Nodup := hsub.nodup (List.nodup_append.1 hp.nd).1
   obtain ⟨P1, P2, rfl, n1, n2⟩ := split_at hiP hndP
   have hxi : ∀ x ∈ P1, x ∉ ancs l i := fun x hx hc => by
    have h1 := hancl x hc
    rw [((hmem x).1 (by simp [hx])).2] at h1; cases h1
   have hpw := hp.pp.sublist hsub
   rw [List.pairwise_append] at hpw
   have hap : ∀ r ∈ P1, ∀ p : Oper, l[(r : Nat)]? = some p → Apart l p o ∧ (fl p = true ∨ fl o = true) := fun r hr p hpp => (hpw.2.2 r hr i List.mem_cons_self).apart (hxi r hr) hpp ho
   have hyk' : (listed.setIfInBounds i true).getD y false = false := (hset y).2 ⟨hiy, hyk⟩
   have hK' : ∀ k ∈ L ++ R ++ t.ids, (listed.setIfInBounds i true).getD k false = false := fun k hk => (hset k).2 ⟨fun e => hdis i hiPf (e ▸ hk), hK k hk⟩
   have hmem' : ∀ k, k ∈ P1 ++ P2 ↔ k ∈ Pf ∧ (listed.setIfInBounds i true).getD k false = false := fun k => by
    rw [hset k]
    by_cases hik : i = k
    ·subst hik; simp [n1, n2]
    ·have := hmem k
     simp only [List.mem_append, List.mem_cons] at this ⊢
     constructor
     ·intro h1
      have h2 := this.1 (h1.elim .inl (fun h => .inr (.inr h)))
      exact ⟨h2.1, hik, h2.2⟩
     ·rintro ⟨h1, _, h3⟩
      rcases this.2 ⟨h1, h3⟩ with h4 | h4 | h4
      ·exact .inl h4
      ·exact absurd h4.symm hik
      ·exact .inr h4
   have fin : ∀ v w', S w' → Tx P fl ro l S (fun _ a w => Wy l oy a ∧ TxS P fl ro l S Q y oy L R t a w) (P1 ++ P2) (a.put o.dst v) w' → J (listed.setIfInBounds i true) (a.put o.dst v) w' := fun v w' hS' ht => by
    by_cases h0 : P1 ++ P2 = []
    ·right
     rw [h0] at ht
     have hPd : ∀ k ∈ Pf, (listed.setIfInBounds i true).getD k false = true := fun k hk => by
      cases hc : (listed.setIfInBounds i true).getD k false with
      | true => rfl
      | false =>
       have := (hmem' k).2 ⟨hk, hc⟩
       rw [h0] at this; simp at this
     refine ⟨hPd, hS', .inl ⟨hyk', ht.1, L, R, List.Sublist.refl _, List.Sublist.refl _, fun k => ?_, ht.2⟩⟩
     constructor
     ·intro hk
      have := (hp.all k).1 (List.mem_append_right _ hk)
      exact ⟨this.1, this.2, hK' k hk⟩
     ·rintro ⟨h1, h2, h3⟩
      rcases List.mem_append.1 ((hp.all k).2 ⟨h1, h2⟩) with h4 | h4
      ·rw [hPd k h4] at h3; cases h3
      ·exact h4
    ·exact .inl ⟨hS', hyk', P1 ++ P2, h0, sub_of hsub, hmem', hK', ht⟩
   cases hfo : fl o with
   | true =>
    obtain ⟨v, hv, ht⟩ := Tx.first hns ho hfo P1 a w (fun r hr p hpp => (hap r hr p hpp).1) hSw hT
    refine ⟨fun hw => ?_, fun hw => ?_⟩
    ·unfold Eff
     rw [hv.1 hw w hSw]
     exact fin _ _ hSw ht
    ·rw [hv.2 hw] at ht; exact fin _ _ hSw ht
   | false =>
    obtain ⟨h1, h2⟩ := Tx.over hns ho hfo P1 a w (fun r hr p hpp => ⟨(hap r hr p hpp).1, (hap r hr p hpp).2.resolve_right (by rw [hfo]; simp)⟩) hT
    exact ⟨fun hw => (h1 hw).mono fun v w' ⟨hS', ht⟩ => fin _ _ hS' ht, fun hw => fin _ _ hSw (h2 hw)⟩
  ·have hstep := slide_step hb hy hs hLw hndK listed a w i o hsz hcl hI ho hf hdeps
   have hPf' : ∀ k ∈ Pf, (listed.setIfInBounds i true).getD k false = true := fun k hk => by
    cases hc : (listed.setIfInBounds i true).getD k false with
    | true => rfl
    | false => have := ((hset k).1 hc).2; rw [hPf k hk] at this; cases this
   exact ⟨fun hw => (hstep.1 hw).mono fun v w' h => .inr ⟨hPf', h⟩, fun hw => .inr ⟨hPf', hstep.2 hw⟩⟩
 ·intro listed a w hsz hJ hdone
  rcases hJ with ⟨_, h1, _⟩ | ⟨_, hI⟩
  ·rw [hdone y hyl] at h1; cases h1
  ·exact slide_end hy listed a w hsz hI hdone
end
def gdW (l : List Oper) (oy : Oper) (x : Nat) : Bool := match oy.guard, l[x]? with
 | some (j, _), some o => (match (l[j]?).bind (·.dst) with
  | some k => (match o.dst with | some d => !(Nat.beq d k) | none => true)
  | none => true)
 | _, _ => true
def okPre (fl : Oper → Bool) (l : List Oper) (y : Nat) (Pf L R : List Nat) (t : OT) : Bool :=
 okBack l && (match l[y]? with | some o => L.all (gdW l o) | none => false) &&
 (L.all fun x => ((match l[x]? with | some p => fl p | none => true) && ((ancT l []).getD y []).contains x) && R.all (unB fl l (ancT l []) x)) && pwB (unB fl l (ancT l [])) L &&
 (R.all fun z => (!((ancT l []).getD z []).contains y && apB l y z) && t.ids.all (unB fl l (ancT l []) z)) && pwB (unB fl l (ancT l [])) R && (t.ids.all fun z => ((ancT l []).getD z []).contains y) && goodB fl l (ancT l []) t &&
 pwB (fun x y => !Nat.beq x y) (y :: (Pf ++ (L ++ R ++ t.ids))) && (Pf ++ (L ++ R ++ t.ids)).all (fun k => Nat.blt k l.length) && ((List.range l.length).all fun k => Nat.beq k y || (Pf ++ (L ++ R ++ t.ids)).contains k) &&
 pwB (unB fl l (ancT l [])) Pf && Pf.all fun x => (y :: (L ++ R ++ t.ids)).all fun z => ((ancT l []).getD z []).contains x
section
variable {fl : Oper → Bool} {l : List Oper} {y : Nat} {oy : Oper}
theorem yielded_put {a : Act} {d : Option Nat} {v : Value} {j : Nat} (h : ∀ k, (l[j]?).bind (·.dst) = some k → d ≠ some k) : yielded l.toArray (a.put d v).tmps j = yielded l.toArray a.tmps j := by
 unfold yielded
 rw [List.getElem?_toArray]
 cases hb : (l[j]?).bind (·.dst) with
 | none => rfl
 | some k =>
  have hk := h k hb
  cases d with
  | none => rfl
  | some d =>
   have hdk : d ≠ k := fun e => hk (by rw [e])
   simp only [Option.bind_some, Act.put]
   rw [Array.getElem?_setIfInBounds, if_neg hdk]
theorem gdW_ok {x : Nat} (h : gdW l oy x = true) : ∀ o : Oper, l[x]? = some o → ∀ (a : Act) v, Region.wanted oy (yielded l.toArray (a.put o.dst v).tmps) = Region.wanted oy (yielded l.toArray a.tmps) := fun o ho a v => by
 unfold Region.wanted
 cases hg : oy.guard with
 | none => rfl
 | some p =>
  obtain ⟨j, q⟩ := p
  dsimp only
  rw [yielded_put fun k hk hd => ?_]
  unfold gdW at h
  rw [hg, ho] at h
  dsimp only at h
  rw [hk] at h
  dsimp only at h
  rw [hd] at h
  simp at h
theorem okPre_ok {Pf L R : List Nat} {t : OT} (h : okPre fl l y Pf L R t = true) (hy : l[y]? = some oy) : okBack l = true ∧ Slides fl l y L R t ∧ (∀ x ∈ L, ∀ o : Oper, l[(x : Nat)]? = some o → ∀ (a : Act) v, Region.wanted oy (yielded l.toArray (a.put o.dst v).tmps) = Region.wanted oy (yielded l.toArray a.tmps)) ∧ Pres fl l y (L ++ R ++ t.ids) Pf := by
 simp only [okPre, Bool.and_eq_true] at h
 obtain ⟨⟨⟨⟨⟨⟨⟨⟨⟨⟨⟨⟨h1, h2⟩, h3⟩, h4⟩, h5⟩, h6⟩, h7⟩, h8⟩, h9⟩, h10⟩, h11⟩, h12⟩, h13⟩ := h
 rw [hy] at h2
 have hne := pwB_pw (R := fun x y => x ≠ y) (fun x y h e => by
  subst e
  rw [Nat.beq_refl] at h; cases h) h9
 rw [List.pairwise_cons] at hne
 refine ⟨h1, ⟨fun x hx => ?_, pwB_pw (fun x y h => unB_un h) h4, fun x hx z hz => ?_, fun z hz => ?_, pwB_pw (fun x y h => unB_un h) h6, fun z hz => List.contains_iff_mem.1 (List.all_eq_true.1 h7 z hz), fun x hx z hz => ?_, goodB_good h8⟩, fun x hx => gdW_ok (List.all_eq_true.1 h2 x hx), ⟨pwB_pw (fun x y h => unB_un h) h12, fun x hx z hz => ?_, hne.2, fun hc => hne.1 y (List.mem_append_left _ hc) rfl, fun k => ⟨fun hk => ⟨Nat.le_of_ble_eq_true (List.all_eq_true.1 h10 k hk), fun e => ?_⟩, fun hk => ?_⟩⟩⟩
 ·have := List.all_eq_true.1 h3 x hx
  simp only [Bool.and_eq_true] at this
  refine ⟨fun p hp => ?_, List.contains_iff_mem.1 this.1.2⟩
  have h14 := this.1.1
  rw [hp] at h14; exact h14
 ·have := List.all_eq_true.1 h3 x hx
  simp only [Bool.and_eq_true] at this
  exact unB_un (List.all_eq_true.1 this.2 z hz)
 ·have := List.all_eq_true.1 h5 z hz
  simp only [Bool.and_eq_true, Bool.not_eq_true'] at this
  refine ⟨fun hc => ?_, apB_ap this.1.2⟩
  have h14 := this.1.1
  have h15 : ((ancT l []).getD z []).contains y = true := List.contains_iff_mem.2 hc
  rw [h15] at h14; cases h14
 ·have := List.all_eq_true.1 h5 x hx
  simp only [Bool.and_eq_true] at this
  exact unB_un (List.all_eq_true.1 this.2 z hz)
 ·exact List.contains_iff_mem.1 (List.all_eq_true.1 (List.all_eq_true.1 h13 x hx) z (by rcases hz with rfl | hz <;> simp_all))
 ·subst e; exact hne.1 k hk rfl
 ·have := List.all_eq_true.1 h11 k (List.mem_range.2 hk.1)
  simp only [Bool.or_eq_true] at this
  rcases this with h14 | h14
  ·exact absurd (Nat.eq_of_beq_eq_true h14) hk.2
  ·exact List.contains_iff_mem.1 h14
end
section
variable {P : Program} {fl : Oper → Bool} {ro : Option Nat} {N : Nat} {l : List Oper} {Q Q' : Exit → Act → World → Prop} {E : List (Nat × Value)} {ds : List Deferred} {b : World} {F F0 : List SP} {y : Nat} {oy : Oper}
theorem sw_preslide (fl : Oper → Bool) (y kp : Nat) (L R : List Nat) (t : OT) (F0 : List SP) [hm : Mixed P] {id : Nat} (hy : l[y]? = some oy) (hok : okPre fl l y (List.range' 0 kp) L R t = true) (hk : Nat.blt 0 kp = true) (hn : Nat.ble (0 + kp) l.length = true) (he : Ent F F0)
  (h : SD P fl ro N F0 l 0 ((l.drop 0).take kp) (fun _ a w => Wy l oy a ∧ TxS P fl ro l (Sat b F0) Q y oy L R t a w) E ds b F) :
  SW P ro N (.region id l.toArray true) Q E ds b F := ⟨fun w H a hka hd => by
 obtain ⟨h1, h2, h3, h4⟩ := okPre_ok hok hy
 have H' := H.ext (Fr.drew w)
 have hP0 : List.range' 0 kp ≠ [] := by
  have := Nat.le_of_ble_eq_true hk
  cases kp with
  | zero => omega
  | succ n => simp [List.range'_succ]
 exact region_preslide h1 hy h2 h3 h4 hP0 hm.on (S := Sat b F0) (H'.ent he) (sd_tx hn h H' hka hd (H'.ent he))⟩
theorem sn_slide {S' : Type} (k n : Nat) {L R : List Nat} {t : OT} (hL : List.range' k n = L) (hg : wants l E oy.guard = some true) (hn : Nat.ble (k + n) l.length = true) (he : Ent F F0)
  (Em : S' → List (Nat × Value)) (Fm : S' → List SP) (I : S' → Prop) (hE : ∀ s, I s → Ent (Fm s) F0) (tail : ∀ s, I s → ST P fl ro N F0 l t Q (Em s) ds b (Fm s))
  (h : (∀ s E' F', I s → Sub (Em s) E' → Ent F' (Fm s) → SN N (fun _ => TxT P fl ro l (Sat b F0) Q t) .normal E' ds b F') → SD P fl ro N F0 l k ((l.drop k).take n) (fun _ => T1 P fl ro l (Sat b F0) (fun _ => TxT P fl ro l (Sat b F0) Q t) y oy R) E ds b F) :
  SN N (fun _ a w => Wy l oy a ∧ TxS P fl ro l (Sat b F0) Q y oy L R t a w) .normal E ds b F := ⟨fun w H a hk hd => by
 subst hL
 have J : ∀ s E' F', I s → Sub (Em s) E' → Ent F' (Fm s) → SN N (fun _ => TxT P fl ro l (Sat b F0) Q t) .normal E' ds b F' := fun s E' F' hI hs hF => ⟨fun w H a hk hd => (tail s hI).run w (H.ent hF) a (hk.sub hs) hd ((H.ent hF).ent (hE s hI))⟩
 exact ⟨wanted_of hk hg, sd_tx hn (h J) H hk hd (H.ent he)⟩⟩
theorem an_ofW {R : List Nat} (hy : l[y]? = some oy) (hf : fl oy = false) {S : World → Prop} {a : Act} {w : World} (hw : Wy l oy a) (h : Tx P fl ro l S (fun _ => Tx P fl ro l S Q R) [y] a w) : AN P fl ro l S Q oy R a w := by
 obtain ⟨o, ho, hw', _⟩ := h
 rw [hy] at ho
 cases ho
 rcases hw' hw with ⟨hf', _⟩ | ⟨_, he⟩
 ·rw [hf] at hf'; cases hf'
 ·exact he
theorem sn_t1effG {i : Nat} {R2 : List Nat} (hy : l[y]? = some oy) (hf : fl oy = false) (hg : wants l E oy.guard = some true) (hi : Nat.ble (i + 1) l.length = true) (hyl : Nat.ble (y + 1) l.length = true) (he : Ent F F0) (h1 : SD P fl ro N F0 l y ((l.drop y).take 1) (fun _ => Tx P fl ro l (Sat b F0) Q (i :: R2)) E ds b F)
  (h2 : SD P fl ro N F0 l i ((l.drop i).take 1) (fun _ => T1 P fl ro l (Sat b F0) Q y oy R2) E ds b F) : SN N (fun _ => T1 P fl ro l (Sat b F0) Q y oy (i :: R2)) .normal E ds b F := ⟨fun w H a hk hd =>
 ⟨an_ofW hy hf (wanted_of hk hg) (sd_tx hyl h1 H hk hd (H.ent he)), fun _ => sd_tx hi h2 H hk hd (H.ent he)⟩⟩
theorem sn_t1nilG (hy : l[y]? = some oy) (hf : fl oy = false) (hg : wants l E oy.guard = some true) (hyl : Nat.ble (y + 1) l.length = true) (he : Ent F F0) (h1 : SD P fl ro N F0 l y ((l.drop y).take 1) Q E ds b F) : SN N (fun _ => T1 P fl ro l (Sat b F0) Q y oy []) .normal E ds b F := ⟨fun w H a hk hd =>
 an_ofW hy hf (wanted_of hk hg) (sd_tx hyl h1 H hk hd (H.ent he))⟩
end
end Go.Eng
