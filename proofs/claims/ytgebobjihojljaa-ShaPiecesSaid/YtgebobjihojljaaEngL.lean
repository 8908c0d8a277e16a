/- The engine, part eleven: regions that draw their order, more freely: an invariant of what has been done; regions cut in two. Conditions: as part seven. -/
import Derived.Test.YtgebobjihojljaaEngK
namespace Go.Eng
open Go Go.RowKit

section
variable {P : Program} {ro : Option Nat} {l : List Oper} {Q : Exit → Act → World → Prop}

/-- Binding edges lead back; nothing selects or defers. -/
def okBack (l : List Oper) : Bool :=
  l.all noSel && (List.range l.length).all fun i => match l[i]? with
    | none => true
    | some o => o.after.toList.all fun e => !Region.binds .any e || Nat.blt e.on i
theorem okBack_back (h : okBack l = true) (i : Nat) (o : Oper) (ho : l[i]? = some o) (e : Edge) (he : e ∈ o.after.toList) (hb : Region.binds .any e = true) : e.on < i := by
  simp only [okBack, Bool.and_eq_true] at h
  have hlt : i < l.length := (List.getElem?_eq_some_iff.1 ho).1
  have := List.all_eq_true.1 h.2 i (List.mem_range.2 hlt)
  simp only [ho] at this
  have := List.all_eq_true.1 this e he
  simp only [hb, Bool.not_true, Bool.false_or] at this
  exact Nat.le_of_ble_eq_true this
theorem okBack_ns (h : okBack l = true) (i : Nat) (o : Oper) (ho : l[i]? = some o) : noSel o = true := by
  simp only [okBack, Bool.and_eq_true] at h
  exact List.all_eq_true.1 h.1 o (List.mem_of_getElem? ho)

/-- What one operation owes an invariant of what has been done. -/
def Owes (P : Program) (ro : Option Nat) (l : List Oper) (I : Array Bool → Act → World → Prop) (listed : Array Bool) (i : Nat) (o : Oper) (a : Act) (w : World) : Prop :=
  (Region.wanted o (yielded l.toArray a.tmps) = true → Eff P ro o a w fun v w' => I (listed.setIfInBounds i true) (a.put o.dst v) w') ∧
  (Region.wanted o (yielded l.toArray a.tmps) = false → I (listed.setIfInBounds i true) (a.put o.dst undef) w)

theorem any_inv (hok : okBack l = true) (I : Array Bool → Act → World → Prop)
    (hstep : ∀ (listed : Array Bool) (a : Act) (w : World) (i : Nat) (o : Oper), listed.size = l.length → Closed l listed → I listed a w → l[i]? = some o → listed.getD i false = false →
      (∀ e ∈ o.after.toList, Region.binds .any e = true → listed.getD e.on false = true) → Owes P ro l I listed i o a w)
    (hend : ∀ (listed : Array Bool) (a : Act) (w : World), listed.size = l.length → I listed a w → (∀ i, i < l.length → listed.getD i false = true) → Q .normal a w) :
    ∀ (fuel : Nat) (listed : Array Bool) (a : Act) (w : World), listed.size = l.length → Closed l listed → (left l listed).length = fuel → I listed a w → wpAnyIn (FR ro) 0 P .any l.toArray Q fuel listed a w := by
  have done : ∀ (listed : Array Bool), listed.size = l.length → left l listed = [] → ∀ i, i < l.length → listed.getD i false = true := by
    intro listed hsz hnil i hi
    cases h : listed.getD i false with
    | true => rfl
    | false =>
      exfalso
      have : i ∈ left l listed := by unfold left; rw [List.mem_filter]; exact ⟨List.mem_range.2 hi, by rw [getD_both (by omega), h]; rfl⟩
      rw [hnil] at this; cases this
  intro fuel
  induction fuel with
  | zero =>
    intro listed a w hsz hcl hlen hI
    have hnil : left l listed = [] := List.eq_nil_of_length_eq_zero hlen
    refine ⟨?_, hend listed a w hsz hI (done listed hsz hnil)⟩
    rw [List.eq_nil_iff_forall_not_mem]
    intro i hi
    rw [mem_ready] at hi
    obtain ⟨h0, o, ho, _⟩ := hi
    have hlt : i < l.length := by simpa using (Array.getElem?_eq_some_iff.1 ho).1
    have h1 := done listed hsz hnil i hlt
    rw [← getD_both (by omega), h0] at h1
    cases h1
  | succ fuel ih =>
    intro listed a w hsz hcl hlen hI
    refine ⟨fun hr => ?_, ?_⟩
    · exfalso
      cases hl : left l listed with
      | nil => rw [hl] at hlen; simp at hlen
      | cons i R =>
        have himem : i ∈ left l listed := by rw [hl]; exact List.mem_cons_self
        have hi2 := List.mem_filter.1 himem
        have hlt := List.mem_range.1 hi2.1
        have hmin : ∀ j, j < i → listed.getD j false = true := by
          intro j hj
          cases hlj : listed.getD j false with
          | true => rfl
          | false =>
            exfalso
            have hjl : j < l.length := by omega
            have hjm : j ∈ left l listed := by
              unfold left; rw [List.mem_filter]
              exact ⟨List.mem_range.2 hjl, by rw [getD_both (by omega), hlj]; rfl⟩
            have hpw : (left l listed).Pairwise (· < ·) := List.Pairwise.filter _ List.pairwise_lt_range
            rw [hl] at hjm hpw
            rcases List.mem_cons.1 hjm with rfl | hjm
            · omega
            · have := (List.pairwise_cons.1 hpw).1 j hjm
              omega
        have hg : l[i]? = some l[i] := List.getElem?_eq_getElem hlt
        have : i ∈ Region.ready .any l.toArray listed := by
          rw [mem_ready]
          refine ⟨by simpa using hi2.2, l[i], by simp, fun e he hb => ?_⟩
          exact hmin _ (okBack_back hok i _ hg e (by simpa using he) hb)
        rw [hr] at this; cases this
    · intro i hi
      rw [mem_ready] at hi
      obtain ⟨h0, o, ho, hdeps⟩ := hi
      have ho' : l[i]? = some o := by simpa using ho
      have hlt : i < l.length := (List.getElem?_eq_some_iff.1 ho').1
      obtain ⟨R1, R2, hs1, hs2, hs3⟩ := filter_split (p := fun j => !listed.getD j true) List.nodup_range (List.mem_range.2 hlt) (by simp [h0]) List.pairwise_lt_range
      have hleft' : left l (listed.setIfInBounds i true) = R1 ++ R2 := by
        rw [← hs3]
        unfold left
        apply List.filter_congr
        intro j _
        by_cases hij : i = j
        · subst hij
          have : i < listed.size := by omega
          simp [this]
        · rw [getD_set_ne true hij]
          simp [Ne.symm hij]
      have hleft : left l listed = R1 ++ i :: R2 := hs1
      have hcl' : Closed l (listed.setIfInBounds i true) := by
        intro k p hk hp e he hb
        by_cases hik : i = k
        · subst hik
          rw [ho'] at hp
          cases hp
          exact getD_set_true (hdeps e (by simpa using he) hb)
        · rw [getD_set_ne false hik] at hk
          exact getD_set_true (hcl k p hk hp e he hb)
      have hlen' : (left l (listed.setIfInBounds i true)).length = fuel := by
        rw [hleft']
        rw [hleft] at hlen
        simp at hlen ⊢
        omega
      have hsz' : (listed.setIfInBounds i true).size = l.length := by simpa using hsz
      have hf : listed.getD i false = false := by rw [← getD_both (by omega)]; exact h0
      obtain ⟨h1, h2⟩ := hstep listed a w i o hsz hcl hI ho' hf (fun e he hb => hdeps e (by simpa using he) hb)
      unfold wpOpIn
      rw [ho]
      dsimp only
      cases hw : Region.wanted o (yielded l.toArray a.tmps) with
      | true =>
        rw [if_pos rfl]
        exact Eff.wpIn (noSel_defer (okBack_ns hok i o ho')) ((h1 hw).mono fun v w' hI' => ih _ _ _ hsz' hcl' hlen' hI')
      | false =>
        rw [if_neg (by simp)]
        exact ⟨fun f _ => FR_fn ro f, ih _ _ _ hsz' hcl' hlen' (h2 hw)⟩

/-- A region whose order is drawn, by an invariant of what has been done. -/
theorem region_inv (hok : okBack l = true) (hm : P.follows .mixedOrders = true) (I : Array Bool → Act → World → Prop) {id : Nat} {a : Act} {w : World} (h0 : I (Array.replicate l.length false) a w.drew)
    (hstep : ∀ (listed : Array Bool) (a : Act) (w : World) (i : Nat) (o : Oper), listed.size = l.length → Closed l listed → I listed a w → l[i]? = some o → listed.getD i false = false →
      (∀ e ∈ o.after.toList, Region.binds .any e = true → listed.getD e.on false = true) → Owes P ro l I listed i o a w)
    (hend : ∀ (listed : Array Bool) (a : Act) (w : World), listed.size = l.length → I listed a w → (∀ i, i < l.length → listed.getD i false = true) → Q .normal a w) :
    (Code.region id l.toArray true).wpIn (FR ro) 0 P Q a w := by
  have hleft : left l (Array.replicate l.length false) = List.range l.length := by
    unfold left
    rw [List.filter_eq_self]
    intro i hi
    have := List.mem_range.1 hi
    simp [this]
  refine wpIn_region_any hm ?_
  have := any_inv (P := P) (ro := ro) (Q := Q) hok I hstep hend l.length (Array.replicate l.length false) a w.drew (by simp)
    (by intro i o hi; simp [Array.getElem?_replicate] at hi; split at hi <;> simp at hi) (by rw [hleft]; simp) h0
  simpa using this
end

/-! ### A region cut in two -/
section
variable {P : Program} {ro : Option Nat} {l : List Oper} {Q : Exit → Act → World → Prop} {S : World → Prop} {fl : Oper → Bool}
def rest (R : List Nat) (listed : Array Bool) : List Nat := R.filter fun i => !listed.getD i true
theorem step_of_Tx (hns : ∀ (i : Nat) (o : Oper), l[i]? = some o → noSel o = true) {R : List Nat} (hnd : R.Nodup) (hpw : R.Pairwise (· < ·)) {listed : Array Bool} {i : Nat} {o : Oper} {a : Act} {w : World}
    (hi : i ∈ R) (ho : l[i]? = some o) (hsz : i < listed.size) (h0 : listed.getD i true = false)
    (hanc : ∀ r, r < i → listed.getD r true = false → r ∈ R → ∀ p : Oper, l[(r : Nat)]? = some p → Apart l p o ∧ (fl o = true ∨ fl p = true)) (hS : S w) (h : Tx P fl ro l S Q (rest R listed) a w) :
    (Region.wanted o (yielded l.toArray a.tmps) = true → Eff P ro o a w fun v w' => S w' ∧ Tx P fl ro l S Q (rest R (listed.setIfInBounds i true)) (a.put o.dst v) w') ∧
    (Region.wanted o (yielded l.toArray a.tmps) = false → Tx P fl ro l S Q (rest R (listed.setIfInBounds i true)) (a.put o.dst undef) w) := by
  obtain ⟨R1, R2, hs1, hs2, hs3⟩ := filter_split (p := fun j => !listed.getD j true) hnd hi (by simp [h0]) hpw
  have hleft' : rest R (listed.setIfInBounds i true) = R1 ++ R2 := by
    rw [← hs3]
    unfold rest
    apply List.filter_congr
    intro j _
    by_cases hij : i = j
    · subst hij
      simp [hsz]
    · rw [getD_set_ne true hij]
      simp [Ne.symm hij]
  have hmem : ∀ r ∈ R1, r ∈ R := fun r hr => by
    have : r ∈ R.filter (fun j => !listed.getD j true) := by rw [hs1]; exact List.mem_append_left _ hr
    exact (List.mem_filter.1 this).1
  have hanc' : ∀ r ∈ R1, ∀ p : Oper, l[(r : Nat)]? = some p → Apart l p o ∧ (fl o = true ∨ fl p = true) := fun r hr p hp =>
    hanc r (hs2 r hr).1 (by simpa using (hs2 r hr).2) (hmem r hr) p hp
  rw [hleft']
  unfold rest at h
  rw [hs1] at h
  cases hf : fl o with
  | true =>
    obtain ⟨v, hv, ht⟩ := Tx.first hns ho hf R1 a w (fun r hr p hp => (hanc' r hr p hp).1) hS h
    refine ⟨fun hw => ?_, fun hw => ?_⟩
    · unfold Eff
      rw [hv.1 hw w hS]
      exact ⟨hS, ht⟩
    · rw [hv.2 hw] at ht; exact ht
  | false => exact Tx.over hns ho hf R1 a w (fun r hr p hp => ⟨(hanc' r hr p hp).1, ((hanc' r hr p hp).2).resolve_left (by simp [hf])⟩) h

def okCut (fl : Oper → Bool) (n : Nat) (l : List Oper) : Bool :=
  let an := ancT l []
  okBack l && (List.range l.length).all fun i => match l[i]? with
    | none => true
    | some o => (List.range i).all fun j => match l[j]? with
        | none => true
        | some p => (an.getD i []).contains j || ((Nat.ble n j || Nat.blt i n) && (p.apart l.toArray o && o.apart l.toArray p && (fl o || fl p)))
theorem okCut_pair {n : Nat} (h : okCut fl n l = true) (i j : Nat) (o p : Oper) (ho : l[i]? = some o) (hp : l[j]? = some p) (hji : j < i) :
    j ∈ (ancT l []).getD i [] ∨ ((n ≤ j ∨ i < n) ∧ Apart l p o ∧ (fl o = true ∨ fl p = true)) := by
  simp only [okCut, Bool.and_eq_true] at h
  have hlt : i < l.length := (List.getElem?_eq_some_iff.1 ho).1
  have := List.all_eq_true.1 h.2 i (List.mem_range.2 hlt)
  simp only [ho] at this
  have := List.all_eq_true.1 this j (List.mem_range.2 hji)
  simp only [hp, Bool.or_eq_true, Bool.and_eq_true] at this
  rcases this with h1 | ⟨h0, ⟨h1, h2⟩, h3⟩
  · exact .inl (List.contains_iff_mem.1 h1)
  · exact .inr ⟨h0.imp Nat.le_of_ble_eq_true Nat.le_of_ble_eq_true, ⟨h1, h2⟩, h3⟩

def Q2 (P : Program) (fl : Oper → Bool) (ro : Option Nat) (l : List Oper) (S2 : World → Prop) (n : Nat) (Q : Exit → Act → World → Prop) : Exit → Act → World → Prop :=
  fun _ a w => S2 w ∧ Tx P fl ro l S2 Q (List.range' n (l.length - n)) a w

theorem region_cut {n : Nat} (hn : n ≤ l.length) (hok : okCut fl n l = true) (hm : P.follows .mixedOrders = true) {S1 S2 : World → Prop} {id : Nat} {a : Act} {w : World} (hS : S1 w.drew)
    (h : Tx P fl ro l S1 (Q2 P fl ro l S2 n Q) (List.range n) a w.drew) : (Code.region id l.toArray true).wpIn (FR ro) 0 P Q a w := by
  have hb : okBack l = true := by simp only [okCut, Bool.and_eq_true] at hok; exact hok.1
  have hns := okBack_ns hb
  have nd2 : (List.range' n (l.length - n)).Nodup := List.nodup_range'
  have pw2 : (List.range' n (l.length - n)).Pairwise (· < ·) := List.pairwise_lt_range' (s := n) (n := l.length - n)
  let I : Array Bool → Act → World → Prop := fun listed a w =>
    ((∀ i, n ≤ i → i < l.length → listed.getD i true = false) ∧ S1 w ∧ Tx P fl ro l S1 (Q2 P fl ro l S2 n Q) (rest (List.range n) listed) a w) ∨
    ((∀ j, j < n → listed.getD j true = true) ∧ S2 w ∧ Tx P fl ro l S2 Q (rest (List.range' n (l.length - n)) listed) a w)
  have conv : ∀ (listed : Array Bool) (a : Act) (w : World), I listed a w → (∃ j, j < n ∧ listed.getD j true = false ∧ (∀ i, n ≤ i → i < l.length → listed.getD i true = false) ∧ S1 w ∧ Tx P fl ro l S1 (Q2 P fl ro l S2 n Q) (rest (List.range n) listed) a w) ∨
      ((∀ j, j < n → listed.getD j true = true) ∧ S2 w ∧ Tx P fl ro l S2 Q (rest (List.range' n (l.length - n)) listed) a w) := by
    rintro listed a w (⟨h1, h2, h3⟩ | h)
    · cases hr : rest (List.range n) listed with
      | nil =>
        right
        rw [hr] at h3
        have hall : ∀ j, j < n → listed.getD j true = true := fun j hj => by
          cases hx : listed.getD j true with
          | true => rfl
          | false =>
            exfalso
            have : j ∈ rest (List.range n) listed := by unfold rest; rw [List.mem_filter]; exact ⟨List.mem_range.2 hj, by simp [hx]⟩
            rw [hr] at this; cases this
        refine ⟨hall, h3.1, ?_⟩
        have : rest (List.range' n (l.length - n)) listed = List.range' n (l.length - n) := by
          unfold rest
          rw [List.filter_eq_self]
          intro i hi
          rw [List.mem_range'_1] at hi
          simp [h1 i hi.1 (by omega)]
        rw [this]
        exact h3.2
      | cons j R =>
        left
        have hj : j ∈ rest (List.range n) listed := by rw [hr]; exact List.mem_cons_self
        unfold rest at hj
        rw [List.mem_filter] at hj
        exact ⟨j, List.mem_range.1 hj.1, by simpa using hj.2, h1, h2, by rw [hr] at h3; exact h3⟩
    · exact .inr h
  refine region_inv hb hm I ?_ ?_ ?_
  · left
    refine ⟨fun i _ hi => by simp [hi], hS, ?_⟩
    have : rest (List.range n) (Array.replicate l.length false) = List.range n := by
      unfold rest
      rw [List.filter_eq_self]
      intro i hi
      have := List.mem_range.1 hi
      have : i < l.length := by omega
      simp [this]
    rw [this]
    exact h
  · intro listed a w i o hsz hcl hI ho hf hdeps
    have hlt : i < l.length := (List.getElem?_eq_some_iff.1 ho).1
    have hft : listed.getD i true = false := by rw [getD_both (by omega)]; exact hf
    have hanc : ∀ r, r < i → listed.getD r true = false → ∀ p : Oper, l[(r : Nat)]? = some p → (n ≤ r ∨ i < n) ∧ Apart l p o ∧ (fl o = true ∨ fl p = true) := by
      intro r hri hun p hp
      rcases okCut_pair hok i r o p ho hp hri with hm | hm
      · exfalso
        have := ancT_sound hcl l [] [] rfl rfl (fun i o h => by simp at h) i o ho hdeps r hm
        have hrl : r < l.length := (List.getElem?_eq_some_iff.1 hp).1
        rw [getD_both (by omega), this] at hun
        cases hun
      · exact hm
    rcases conv listed a w hI with ⟨j0, hj0, hun0, h1, h2, h3⟩ | ⟨h1, h2, h3⟩
    · have hin : i < n := by
        rcases Nat.lt_or_ge i n with h | h
        · exact h
        · have := (hanc j0 (by omega) hun0 l[j0] (List.getElem?_eq_getElem (by omega))).1
          omega
      obtain ⟨g1, g2⟩ := step_of_Tx (fl := fl) hns List.nodup_range List.pairwise_lt_range (List.mem_range.2 hin) ho (by omega) hft (fun r hr hu _ p hp => (hanc r hr hu p hp).2) h2 h3
      have keep : ∀ k, n ≤ k → k < l.length → (listed.setIfInBounds i true).getD k true = false := fun k hk hkl => by
        rw [getD_set_ne true (by omega)]; exact h1 k hk hkl
      exact ⟨fun hw => (g1 hw).mono fun v w' ⟨hS', ht⟩ => .inl ⟨keep, hS', ht⟩, fun hw => .inl ⟨keep, h2, g2 hw⟩⟩
    · have hin : n ≤ i := by
        rcases Nat.lt_or_ge i n with h | h
        · rw [h1 i h] at hft; cases hft
        · exact h
      obtain ⟨g1, g2⟩ := step_of_Tx (fl := fl) hns nd2 pw2 (List.mem_range'_1.2 ⟨hin, by omega⟩) ho (by omega) hft (fun r hr hu _ p hp => (hanc r hr hu p hp).2) h2 h3
      have keep : ∀ j, j < n → (listed.setIfInBounds i true).getD j true = true := fun j hj => by
        rw [getD_set_ne true (by omega)]; exact h1 j hj
      exact ⟨fun hw => (g1 hw).mono fun v w' ⟨hS', ht⟩ => .inr ⟨keep, hS', ht⟩, fun hw => .inr ⟨keep, h2, g2 hw⟩⟩
  · intro listed a w hsz hI hall
    rcases conv listed a w hI with ⟨j0, hj0, hun0, _⟩ | ⟨h1, h2, h3⟩
    · have := hall j0 (by omega)
      rw [← getD_both (by omega), hun0] at this
      cases this
    · have : rest (List.range' n (l.length - n)) listed = [] := by
        unfold rest
        rw [List.filter_eq_nil_iff]
        intro k hk
        rw [List.mem_range'_1] at hk
        rw [getD_both (by omega), hall k (by omega)]
        simp
      rw [this] at h3
      exact h3
end

section
variable {P : Program} {ro : Option Nat} {l : List Oper} {Q : Exit → Act → World → Prop} {N : Nat} {E : List (Nat × Value)} {ds : List Deferred} {w : World}
/-- A drawn region, cut in two behind its first n operations: those behind wait for all of these. -/
theorem cw_draw2 (fl : Oper → Bool) (n : Nat) (S1 S2 : World → Prop) [hm : Mixed P] {id : Nat} (hn : Nat.ble n l.length = true) (hok : okCut fl n l = true) (hS : S1 w.drew)
    (h : DW P fl ro N S1 l 0 (l.take n) (Q2 P fl ro l S2 n Q) E ds w.drew) : CW P ro N (.region id l.toArray true) Q E ds w := fun a hk hd => by
  have hn := Nat.le_of_ble_eq_true hn
  refine region_cut (S2 := S2) hn hok hm.on hS ?_
  have := h a hk hd hS (by intro j hj; rw [List.length_take] at hj; rw [List.getElem?_take, if_pos (by omega), Nat.zero_add])
  rw [List.length_take, Nat.min_eq_left hn, ← List.range_eq_range'] at this
  exact this
theorem pn_draw2 {fl : Oper → Bool} {n : Nat} {S2 : World → Prop} (hn : Nat.ble n l.length = true) (hS : S2 w) (h : DW P fl ro N S2 l n (l.drop n) Q E ds w) : PN N (Q2 P fl ro l S2 n Q) .normal E ds w := fun a hk hd => by
  have := h a hk hd hS (by intro j hj; simp [List.getElem?_drop])
  rw [List.length_drop] at this
  exact ⟨hS, this⟩
end
end Go.Eng
