/- The engine, part thirteen: a drawn region in which new memory and calls stand unordered: each operation's own fact, told of the values of those that it waits for; nothing old turns. Conditions: as part seven. -/
import Derived.Test.YtgebobjihojljaaEngM
namespace Go.Eng
open Go Go.RowKit

section
variable {P : Program} {ro : Option Nat} {l : List Oper} {Q : Exit → Act → World → Prop} {N : Nat} {ds : List Deferred} {E0 : List (Nat × Value)} {fl : Oper → Bool}

def dstOf (l : List Oper) (i : Nat) : Nat := match l[i]? with | some o => o.dst.getD 0 | none => 0
def ancs (l : List Oper) (i : Nat) : List Nat := (ancT l []).getD i []
/-- The first n operations: each yields into a slot of its own, which E0 does not tell of; no guard; each of the others waits for all of them. -/
def okExt (fl : Oper → Bool) (n N : Nat) (E0 : List (Nat × Value)) (l : List Oper) : Bool :=
  okBack l && (((List.range n).all fun i => match l[i]? with
    | none => false
    | some o => o.guard.isNone && match o.dst with
      | none => false
      | some d => Nat.blt d N && (look E0 d).isNone && (List.range n).all fun j => Nat.beq j i || !Nat.beq (dstOf l j) d) &&
  (List.range l.length).all fun i => match l[i]? with
    | none => true
    | some o => Nat.blt i n || (List.range i).all fun j => match l[j]? with
        | none => true
        | some p => (ancs l i).contains j || (Nat.ble n j && (p.apart l.toArray o && o.apart l.toArray p && (fl o || fl p))))
theorem okExt_op {n : Nat} (h : okExt fl n N E0 l = true) {i : Nat} (hi : i < n) : ∃ o d, l[i]? = some o ∧ o.guard = none ∧ o.dst = some d ∧ d < N ∧ look E0 d = none ∧ ∀ j, j < n → j ≠ i → dstOf l j ≠ d := by
  simp only [okExt, Bool.and_eq_true] at h
  have := List.all_eq_true.1 h.2.1 i (List.mem_range.2 hi)
  split at this
  · cases this
  · rename_i o ho
    simp only [Bool.and_eq_true] at this
    obtain ⟨h1, h2⟩ := this
    split at h2
    · cases h2
    · rename_i d hd
      simp only [Bool.and_eq_true] at h2
      refine ⟨o, d, ho, by simpa using h1, hd, Nat.le_of_ble_eq_true h2.1.1, by simpa using h2.1.2, fun j hj hji hjd => ?_⟩
      have := List.all_eq_true.1 h2.2 j (List.mem_range.2 hj)
      simp only [Bool.or_eq_true, Bool.not_eq_true'] at this
      rcases this with h3 | h3
      · exact hji (Nat.eq_of_beq_eq_true h3)
      · rw [hjd, Nat.beq_refl] at h3; cases h3
theorem okExt_pair {n : Nat} (h : okExt fl n N E0 l = true) (i j : Nat) (o p : Oper) (ho : l[i]? = some o) (hp : l[j]? = some p) (hin : n ≤ i) (hji : j < i) :
    j ∈ ancs l i ∨ (n ≤ j ∧ Apart l p o ∧ (fl o = true ∨ fl p = true)) := by
  simp only [okExt, Bool.and_eq_true] at h
  have hlt : i < l.length := (List.getElem?_eq_some_iff.1 ho).1
  have := List.all_eq_true.1 h.2.2 i (List.mem_range.2 hlt)
  simp only [ho, Bool.or_eq_true] at this
  rcases this with h1 | h1
  · have := Nat.le_of_ble_eq_true h1; omega
  · have := List.all_eq_true.1 h1 j (List.mem_range.2 hji)
    simp only [hp, Bool.or_eq_true, Bool.and_eq_true] at this
    rcases this with h1 | ⟨h0, ⟨h1, h2⟩, h3⟩
    · exact .inl (List.contains_iff_mem.1 h1)
    · exact .inr ⟨Nat.le_of_ble_eq_true h0, ⟨h1, h2⟩, h3⟩
/-- What is known of the slots behind the operations L. -/
def knOf (l : List Oper) (E0 : List (Nat × Value)) (vs : Nat → Value) : List Nat → List (Nat × Value)
  | [] => E0
  | j :: L => (dstOf l j, vs j) :: knOf l E0 vs L

def upv (vs : Nat → Value) (i : Nat) (v : Value) : Nat → Value := fun j => if j = i then v else vs j

structure ExtSt (w0 : World) (N n : Nat) (l : List Oper) (E0 : List (Nat × Value)) (ds : List Deferred) (φ : Nat → (Nat → Value) → World → Prop) (own : Nat → Value → Option Nat) (L : Nat → Prop) (vs : Nat → Value) (a : Act) (w : World) : Prop where
  ext : Ext w0 w
  kn : Kn N E0 a
  dfs : a.defers = ds
  slot : ∀ i, i < n → L i → a.tmps[dstOf l i]? = some (vs i)
  fact : ∀ i, i < n → L i → φ i vs w
  low : ∀ i, i < n → L i → ∀ g, own i (vs i) = some g → w0.heap.size ≤ g ∧ g < w.heap.size
  apart : ∀ i j, i < n → j < n → L i → L j → i ≠ j → ∀ g, own i (vs i) = some g → own j (vs j) ≠ some g

theorem ExtSt.kn_of {w0 : World} {n : Nat} {φ : Nat → (Nat → Value) → World → Prop} {own : Nat → Value → Option Nat} {L : Nat → Prop} {vs : Nat → Value} {a : Act} {w : World} (h : ExtSt w0 N n l E0 ds φ own L vs a w) :
    ∀ (M : List Nat), (∀ j ∈ M, j < n ∧ L j) → Kn N (knOf l E0 vs M) a
  | [], _ => h.kn
  | j :: M, hM => by
    have ih := h.kn_of M (fun k hk => hM k (List.mem_cons_of_mem _ hk))
    obtain ⟨hj, hL⟩ := hM j List.mem_cons_self
    refine ⟨ih.1, fun i v hv => ?_⟩
    simp only [knOf, look] at hv
    split at hv
    · rename_i hb
      have := Nat.eq_of_beq_eq_true hb
      subst this
      cases hv
      exact h.slot j hj hL
    · exact ih.2 i v hv

/-- One step. -/
theorem ExtSt.step {w0 : World} {n : Nat} {φ : Nat → (Nat → Value) → World → Prop} {own : Nat → Value → Option Nat} {L L' : Nat → Prop} {vs : Nat → Value} {a : Act} {w w' : World} {i : Nat} {o : Oper} {d : Nat} {v : Value}
    (h : ExtSt w0 N n l E0 ds φ own L vs a w) (hi : i < n) (ho : l[i]? = some o) (hd : o.dst = some d) (hdN : d < N) (hE0 : look E0 d = none) (hne : ∀ j, j < n → j ≠ i → dstOf l j ≠ d) (hnot : ¬ L i)
    (hL : ∀ j, j < n → L' j → j = i ∨ L j) (hanc : ∀ j, j < n → L j → i ∉ ancs l j)
    (hst : ∀ j vs w w', φ j vs w → Ext w w' → φ j vs w') (hloc : ∀ j vs vs' w, φ j vs w → (∀ k, k = j ∨ k ∈ ancs l j → vs k = vs' k) → φ j vs' w)
    (hext : Ext w w') (hf : φ i (upv vs i v) w') (hown : ∀ g, own i v = some g → w.heap.size ≤ g ∧ g < w'.heap.size) :
    ExtSt w0 N n l E0 ds φ own L' (upv vs i v) (a.put (some d) v) w' := by
  have hdi : dstOf l i = d := by simp [dstOf, ho, hd]
  have hself : upv vs i v i = v := by simp [upv]
  have hother : ∀ j, j ≠ i → upv vs i v j = vs j := fun j hj => by simp [upv, hj]
  have hsz := h.kn.1
  refine ⟨h.ext.trans hext, ⟨by simp [Act.put, hsz], fun k u hk => ?_⟩, by rw [put_defers']; exact h.dfs, fun j hj hLj => ?_, fun j hj hLj => ?_, fun j hj hLj g hg => ?_, fun j k hj hk hLj hLk hjk g hg => ?_⟩
  · have hkd : d ≠ k := by intro e; subst e; rw [hE0] at hk; cases hk
    simp only [Act.put]
    rw [Array.getElem?_setIfInBounds_ne hkd]
    exact h.kn.2 k u hk
  · by_cases hji : j = i
    · subst hji
      rw [hdi, hself]
      simp [Act.put, hsz, hdN]
    · have := (hL j hj hLj).resolve_left hji
      rw [hother j hji]
      simp only [Act.put]
      rw [Array.getElem?_setIfInBounds_ne (hne j hj hji).symm]
      exact h.slot j hj this
  · by_cases hji : j = i
    · subst hji; exact hf
    · have hLj' := (hL j hj hLj).resolve_left hji
      refine hst j _ _ _ (hloc j vs _ w (h.fact j hj hLj') fun k hk => ?_) hext
      have : k ≠ i := by
        rintro rfl
        rcases hk with rfl | hk
        · exact hji rfl
        · exact hanc j hj hLj' hk
      exact (hother k this).symm
  · by_cases hji : j = i
    · subst hji
      rw [hself] at hg
      have := hown g hg
      exact ⟨Nat.le_trans h.ext.size this.1, this.2⟩
    · rw [hother j hji] at hg
      have := h.low j hj ((hL j hj hLj).resolve_left hji) g hg
      exact ⟨this.1, Nat.lt_of_lt_of_le this.2 hext.size⟩
  · by_cases hji : j = i
    · subst hji
      have hki : k ≠ j := fun e => hjk e.symm
      rw [hself] at hg
      rw [hother k hki]
      intro hk2
      have h1 := hown g hg
      have h2 := h.low k hk ((hL k hk hLk).resolve_left hki) g hk2
      omega
    · rw [hother j hji] at hg
      by_cases hki : k = i
      · subst hki
        rw [hself]
        intro hk2
        have h1 := hown g hk2
        have h2 := h.low j hj ((hL j hj hLj).resolve_left hji) g hg
        omega
      · rw [hother k hki]
        exact h.apart j k hj hk ((hL j hj hLj).resolve_left hji) ((hL k hk hLk).resolve_left hki) hjk g hg

theorem region_ext {n : Nat} (hn : n ≤ l.length) (hok : okExt fl n N E0 l = true) (hm : P.follows .mixedOrders = true) {S2 : World → Prop} {id : Nat} {a : Act} {w : World} (hk : Kn N E0 a) (hds : a.defers = ds)
    (φ : Nat → (Nat → Value) → World → Prop) (own : Nat → Value → Option Nat)
    (hst : ∀ j vs w w', φ j vs w → Ext w w' → φ j vs w') (hloc : ∀ j vs vs' w, φ j vs w → (∀ k, k = j ∨ k ∈ ancs l j → vs k = vs' k) → φ j vs' w)
    (hop : ∀ i o, i < n → l[i]? = some o → ∀ vs a w', Ext w w' → Kn N (knOf l E0 vs (ancs l i)) a → (∀ j ∈ ancs l i, φ j vs w') →
      Eff P ro o a w' fun v w'' => Ext w' w'' ∧ φ i (upv vs i v) w'' ∧ ∀ g, own i v = some g → w'.heap.size ≤ g ∧ g < w''.heap.size)
    (hend : ∀ vs a w', ExtSt w N n l E0 ds φ own (fun _ => True) vs a w' → S2 w' ∧ Tx P fl ro l S2 Q (List.range' n (l.length - n)) a w') :
    (Code.region id l.toArray true).wpIn (FR ro) 0 P Q a w := by
  have hb : okBack l = true := by simp only [okExt, Bool.and_eq_true] at hok; exact hok.1
  have hns := okBack_ns hb
  have hback : ∀ i, ∀ j ∈ ancs l i, i < l.length → j < i := by
    intro i j hj hi
    cases hlt : decide (j < i) with
    | true => exact of_decide_eq_true hlt
    | false =>
      exfalso
      have hge : i ≤ j := by have := of_decide_eq_false hlt; omega
      let lst : Array Bool := ((List.range l.length).map fun k => decide (k < i)).toArray
      have hget : ∀ k, lst.getD k false = true ↔ k < l.length ∧ k < i := by
        intro k
        simp only [lst, Array.getD_eq_getD_getElem?, List.getElem?_toArray, List.getElem?_map]
        by_cases hk : k < l.length
        · simp [List.getElem?_range hk, hk]
        · simp [List.getElem?_eq_none (l := List.range l.length) (by simpa using hk), hk]
      have hcl : Closed l lst := by
        intro k o hk ho e he hbd
        have := okBack_back hb k o ho e he hbd
        have h2 := (hget k).1 hk
        exact (hget _).2 ⟨by omega, by omega⟩
      have := ancT_sound hcl l [] [] rfl rfl (fun i o h => by simp at h) i l[i] (List.getElem?_eq_getElem hi) (fun e he hbd => (hget _).2 (by
        have := okBack_back hb i l[i] (List.getElem?_eq_getElem hi) e he hbd; omega)) j hj
      have := (hget j).1 this
      omega
  have nd2 : (List.range' n (l.length - n)).Nodup := List.nodup_range'
  have pw2 : (List.range' n (l.length - n)).Pairwise (· < ·) := List.pairwise_lt_range' (s := n) (n := l.length - n)
  let I : Array Bool → Act → World → Prop := fun listed a w' =>
    ((∀ i, n ≤ i → i < l.length → listed.getD i false = false) ∧ ∃ vs, ExtSt w N n l E0 ds φ own (fun i => listed.getD i false = true) vs a w') ∨
    ((∀ j, j < n → listed.getD j false = true) ∧ S2 w' ∧ Tx P fl ro l S2 Q (rest (List.range' n (l.length - n)) listed) a w')
  have conv : ∀ (listed : Array Bool) (a : Act) (w' : World), listed.size = l.length → I listed a w' → (∃ j, j < n ∧ listed.getD j false = false ∧ (∀ i, n ≤ i → i < l.length → listed.getD i false = false) ∧ ∃ vs, ExtSt w N n l E0 ds φ own (fun i => listed.getD i false = true) vs a w') ∨
      ((∀ j, j < n → listed.getD j false = true) ∧ S2 w' ∧ Tx P fl ro l S2 Q (rest (List.range' n (l.length - n)) listed) a w') := by
    rintro listed a w' hsz (⟨h1, vs, h2⟩ | h)
    · by_cases hall : ∀ j, j < n → listed.getD j false = true
      · right
        have h3 := hend vs a w' ⟨h2.ext, h2.kn, h2.dfs, fun i hi _ => h2.slot i hi (hall i hi), fun i hi _ => h2.fact i hi (hall i hi), fun i hi _ => h2.low i hi (hall i hi), fun i j hi hj _ _ => h2.apart i j hi hj (hall i hi) (hall j hj)⟩
        refine ⟨hall, h3.1, ?_⟩
        have : rest (List.range' n (l.length - n)) listed = List.range' n (l.length - n) := by
          unfold rest
          rw [List.filter_eq_self]
          intro i hi
          rw [List.mem_range'_1] at hi
          have := h1 i hi.1 (by omega)
          rw [← getD_both (by omega)] at this
          simp [this]
        rw [this]
        exact h3.2
      · left
        obtain ⟨j, hj⟩ := Classical.not_forall.1 hall
        obtain ⟨hj1, hj2⟩ := Classical.not_imp.1 hj
        exact ⟨j, hj1, by simpa using hj2, h1, vs, h2⟩
    · exact .inr h
  refine region_inv hb hm I ?_ ?_ ?_
  · left
    have hfa : ∀ i, ¬ ((Array.replicate l.length false).getD i false = true) := by
      intro i h
      rw [Array.getD_eq_getD_getElem?, Array.getElem?_replicate] at h
      split at h <;> cases h
    exact ⟨fun i _ hi => by simp [hi], fun _ => undef, Fr.drew _, hk, hds, fun i _ h => absurd h (hfa i), fun i _ h => absurd h (hfa i), fun i _ h => absurd h (hfa i), fun i j _ _ h => absurd h (hfa i)⟩
  · intro listed a w' i o hsz hcl hI ho hf hdeps
    have hlt : i < l.length := (List.getElem?_eq_some_iff.1 ho).1
    have hancl : ∀ r ∈ ancs l i, listed.getD r false = true := fun r hr => ancT_sound hcl l [] [] rfl rfl (fun i o h => by simp at h) i o ho hdeps r hr
    rcases conv listed a w' hsz hI with ⟨j0, hj0, hun0, h1, vs, h2⟩ | ⟨h1, h2, h3⟩
    · have hin : i < n := by
        rcases Nat.lt_or_ge i n with h | h
        · exact h
        · rcases okExt_pair hok i j0 o l[j0] ho (List.getElem?_eq_getElem (by omega)) h (by omega) with hm | hm
          · rw [hancl j0 hm] at hun0; cases hun0
          · omega
      obtain ⟨o', d, ho', hg, hd, hdN, hE0, hne⟩ := okExt_op hok hin
      rw [ho] at ho'; cases ho'
      have hwant : Region.wanted o (yielded l.toArray a.tmps) = true := by simp [Region.wanted, hg]
      have hancn : ∀ j ∈ ancs l i, j < n ∧ listed.getD j false = true := fun j hj => ⟨by have := hback i j hj hlt; omega, hancl j hj⟩
      refine ⟨fun _ => ?_, fun hc => by rw [hwant] at hc; cases hc⟩
      refine (hop i o hin ho vs a w' h2.ext (h2.kn_of _ hancn) (fun j hj => h2.fact j (hancn j hj).1 (hancn j hj).2)).mono ?_
      rintro v w'' ⟨he, hfi, hown⟩
      left
      refine ⟨fun k hk hkl => by rw [getD_set_ne false (by omega)]; exact h1 k hk hkl, upv vs i v, ?_⟩
      rw [hd]
      refine h2.step hin ho hd hdN hE0 hne (by simp [hf]) (fun j hj hLj => ?_) (fun j hj hLj hia => ?_) hst hloc he hfi hown
      · by_cases hji : j = i
        · exact .inl hji
        · right
          rwa [getD_set_ne false (fun e => hji e.symm)] at hLj
      · have hjl : j < l.length := by omega
        have := ancT_sound hcl l [] [] rfl rfl (fun i o h => by simp at h) j l[j] (List.getElem?_eq_getElem hjl) (fun e he hbd => hcl j l[j] hLj (List.getElem?_eq_getElem hjl) e he hbd) i hia
        rw [hf] at this; cases this
    · have hin : n ≤ i := by
        rcases Nat.lt_or_ge i n with h | h
        · rw [h1 i h] at hf; cases hf
        · exact h
      have hft : listed.getD i true = false := by rw [getD_both (by omega)]; exact hf
      obtain ⟨g1, g2⟩ := step_of_Tx (fl := fl) hns nd2 pw2 (List.mem_range'_1.2 ⟨hin, by omega⟩) ho (by omega) hft (fun r hr hu _ p hp => by
        rcases okExt_pair hok i r o p ho hp hin hr with hm | hm
        · have hrl : r < l.length := (List.getElem?_eq_some_iff.1 hp).1
          rw [getD_both (by omega), hancl r hm] at hu; cases hu
        · exact hm.2) h2 h3
      have keep : ∀ j, j < n → (listed.setIfInBounds i true).getD j false = true := fun j hj => by
        rw [getD_set_ne false (by omega)]; exact h1 j hj
      exact ⟨fun hw => (g1 hw).mono fun v w' ⟨hS', ht⟩ => .inr ⟨keep, hS', ht⟩, fun hw => .inr ⟨keep, h2, g2 hw⟩⟩
  · intro listed a w' hsz hI hall
    rcases conv listed a w' hsz hI with ⟨j0, hj0, hun0, _⟩ | ⟨h1, h2, h3⟩
    · have := hall j0 (by omega)
      rw [hun0] at this
      cases this
    · have : rest (List.range' n (l.length - n)) listed = [] := by
        unfold rest
        rw [List.filter_eq_nil_iff]
        intro k hk
        rw [List.mem_range'_1] at hk
        rw [getD_both (by omega), hall k (by omega)]
        simp
      rw [this] at h3
      exact h3

/-- The same, on partial knowledge. E0: what is known of slots that the region does not write. -/
theorem cw_ext {w : World} (n : Nat) (S2 : World → Prop) [hm : Mixed P] {id : Nat} {E : List (Nat × Value)} (E0 : List (Nat × Value)) (hsub : Sub E0 E) (hn : Nat.ble n l.length = true) (hok : okExt fl n N E0 l = true)
    (φ : Nat → (Nat → Value) → World → Prop) (own : Nat → Value → Option Nat)
    (hst : ∀ j vs w w', φ j vs w → Ext w w' → φ j vs w') (hloc : ∀ j vs vs' w, φ j vs w → (∀ k, k = j ∨ k ∈ ancs l j → vs k = vs' k) → φ j vs' w)
    (hop : ∀ i o, i < n → l[i]? = some o → ∀ vs a w', Ext w w' → Kn N (knOf l E0 vs (ancs l i)) a → (∀ j ∈ ancs l i, φ j vs w') →
      Eff P ro o a w' fun v w'' => Ext w' w'' ∧ φ i (upv vs i v) w'' ∧ ∀ g, own i v = some g → w'.heap.size ≤ g ∧ g < w''.heap.size)
    (hend : ∀ vs w', Ext w w' → (∀ i, i < n → φ i vs w') → (∀ i, i < n → ∀ g, own i (vs i) = some g → w.heap.size ≤ g ∧ g < w'.heap.size) → (∀ i j, i < n → j < n → i ≠ j → ∀ g, own i (vs i) = some g → own j (vs j) ≠ some g) →
      S2 w' ∧ DW P fl ro N S2 l n (l.drop n) Q (knOf l E0 vs (List.range n)) ds w') : CW P ro N (.region id l.toArray true) Q E ds w := fun a hk hd => by
  refine region_ext (S2 := S2) (Nat.le_of_ble_eq_true hn) hok hm.on (hk.sub hsub) hd φ own hst hloc hop ?_
  intro vs a w' h
  obtain ⟨h1, h2⟩ := hend vs w' h.ext (fun i hi => h.fact i hi trivial) (fun i hi => h.low i hi trivial) (fun i j hi hj => h.apart i j hi hj trivial trivial)
  refine ⟨h1, ?_⟩
  have := h2 a (h.kn_of (List.range n) (fun j hj => ⟨List.mem_range.1 hj, trivial⟩)) h.dfs h1 (by intro j hj; simp [List.getElem?_drop])
  rwa [List.length_drop] at this

/-! What a single operation owes. -/
theorem eff_ex {o : Oper} {a : Act} {w w' : World} {E : List (Nat × Value)} {v : Value} {next : Value → World → Prop} (hk : Kn N E a) (hx : Ex P E o.op o.type w v w') (h : next v w') : Eff P ro o a w next := by
  unfold Eff
  rw [hx a.eval o hk.hyp rfl rfl]
  exact h
theorem eff_call {o : Oper} {a : Act} {w : World} {E : List (Nat × Value)} {f : FuncId} {args : Array Value} {next : Value → World → Prop} (hk : Kn N E a) (hx : Ec P E o.op o.type w f args) (h : Calls P f args w fun e w' => ∃ v, e = .returned v ∧ next v w') : Eff P ro o a w next := by
  unfold Eff
  rw [hx a.eval o hk.hyp rfl rfl]
  exact h
end
end Go.Eng
