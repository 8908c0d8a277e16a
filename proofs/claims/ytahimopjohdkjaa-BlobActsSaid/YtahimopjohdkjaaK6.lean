/- The engine, part thirty-four: a drawn region in which one new variable's block may be made at any time before its first use. Conditions: as part seven. -/
import Derived.Test.YtahimopjohdkjaaK2
namespace Go.Eng
open Go Go.RowKit

section
variable {P : Program} {ro : Option Nat} {l : List Oper} {Q : Exit → Act → World → Prop} {S : World → Prop} {fl : Oper → Bool} {y : Nat} {oy : Oper}

/-- y now, then the others in order. -/
def AN (P : Program) (fl : Oper → Bool) (ro : Option Nat) (l : List Oper) (S : World → Prop) (Q : Exit → Act → World → Prop) (oy : Oper) (R : List Nat) (a : Act) (w : World) : Prop :=
  Eff P ro oy a w fun v w' => S w' ∧ Tx P fl ro l S Q R (a.put oy.dst v) w'
/-- The others in order, y at any time. -/
def T1 (P : Program) (fl : Oper → Bool) (ro : Option Nat) (l : List Oper) (S : World → Prop) (Q : Exit → Act → World → Prop) (y : Nat) (oy : Oper) : List Nat → Act → World → Prop
  | [], a, w => AN P fl ro l S Q oy [] a w
  | i :: R, a, w => AN P fl ro l S Q oy (i :: R) a w ∧ ((ancs l i).contains y = false → ∃ o, l[i]? = some o ∧
      (Region.wanted o (yielded l.toArray a.tmps) = true →
        (fl o = true ∧ ∃ v, (∀ W, S W → (execOp a.eval o).run P W = .ok (.value v) W) ∧ T1 P fl ro l S Q y oy R (a.put o.dst v) w) ∨
        (fl o = false ∧ Eff P ro o a w fun v w' => S w' ∧ T1 P fl ro l S Q y oy R (a.put o.dst v) w')) ∧
      (Region.wanted o (yielded l.toArray a.tmps) = false → T1 P fl ro l S Q y oy R (a.put o.dst undef) w))
theorem T1.an {R : List Nat} {a : Act} {w : World} (h : T1 P fl ro l S Q y oy R a w) : AN P fl ro l S Q oy R a w := by
  cases R with
  | nil => exact h
  | cons i R => exact h.1

theorem eff_put {o p : Oper} {a : Act} {u : Value} {w : World} {n : Value → World → Prop} (hs : noSel o = true) (h : Apart l p o) : Eff P ro o (a.put p.dst u) w n ↔ Eff P ro o a w n := by
  unfold Eff; rw [run_put hs h]

/-- What y now says, when a reading operation goes first. -/
theorem AN.first (hns : ∀ (i : Nat) (o : Oper), l[i]? = some o → noSel o = true) {i : Nat} {oi : Oper} (hi : l[i]? = some oi) (hf : fl oi = true) (hsy : noSel oy = true) (hyi : Apart l oy oi) {R1 R2 : List Nat} {a : Act} {w : World}
    (hap : ∀ r ∈ R1, ∀ p : Oper, l[(r : Nat)]? = some p → Apart l p oi) (h : AN P fl ro l S Q oy (R1 ++ i :: R2) a w) :
    ∃ v, Fl P l S oi a v ∧ AN P fl ro l S Q oy (R1 ++ R2) (a.put oi.dst v) w := by
  obtain ⟨g0, w0, hS0, ht0⟩ := h.some
  obtain ⟨v, hv, _⟩ := Tx.first hns hi hf R1 _ w0 hap hS0 ht0
  have hsi := hns _ _ hi
  have hv := (Fl.put hsi hyi).1 hv
  refine ⟨v, hv, ?_⟩
  unfold AN
  rw [eff_put hsy hyi.symm]
  refine Eff.mono h ?_
  rintro g w' ⟨hS', ht'⟩
  obtain ⟨v', hv', ht''⟩ := Tx.first hns hi hf R1 _ w' hap hS' ht'
  have hv' := (Fl.put hsi hyi).1 hv'
  have := Fl.unique hS' hv hv'
  subst this
  refine ⟨hS', ?_⟩
  rw [put_put hyi.symm]; exact ht''

theorem T1.first (hns : ∀ (i : Nat) (o : Oper), l[i]? = some o → noSel o = true) {i : Nat} {oi : Oper} (hi : l[i]? = some oi) (hf : fl oi = true) (hsy : noSel oy = true) (hyi : Apart l oy oi) (hyd : (ancs l i).contains y = false) {R2 : List Nat} :
    ∀ (R1 : List Nat) (a : Act) (w : World), (∀ r ∈ R1, ∀ p : Oper, l[(r : Nat)]? = some p → Apart l p oi) → S w → T1 P fl ro l S Q y oy (R1 ++ i :: R2) a w →
      ∃ v, Fl P l S oi a v ∧ T1 P fl ro l S Q y oy (R1 ++ R2) (a.put oi.dst v) w := by
  intro R1
  induction R1 with
  | nil =>
    intro a w _ hS h
    simp only [List.nil_append] at h ⊢
    obtain ⟨o, ho, hw, hn⟩ := h.2 hyd
    rw [hi] at ho
    cases ho
    cases hwant : Region.wanted oi (yielded l.toArray a.tmps) with
    | true =>
      rcases hw hwant with ⟨_, v, hv, ht⟩ | ⟨hff, _⟩
      · exact ⟨v, ⟨fun _ => hv, fun hc => (by rw [hwant] at hc; cases hc)⟩, ht⟩
      · rw [hf] at hff; cases hff
    | false => exact ⟨undef, ⟨fun hc => (by rw [hwant] at hc; cases hc), fun _ => rfl⟩, hn hwant⟩
  | cons r R1 ih =>
    intro a w hap hS h
    have hap' : ∀ r ∈ R1, ∀ p : Oper, l[(r : Nat)]? = some p → Apart l p oi := fun r hr => hap r (List.mem_cons_of_mem _ hr)
    obtain ⟨v0, hv0, han⟩ := AN.first hns hi hf hsy hyi (R1 := r :: R1) hap h.1
    have hsi := hns _ _ hi
    refine ⟨v0, hv0, han, fun hdr => ?_⟩
    obtain ⟨p, hp, hw, hn⟩ := h.2 hdr
    have hapr := hap r List.mem_cons_self p hp
    have hsp := hns _ _ hp
    cases hwant : Region.wanted p (yielded l.toArray a.tmps) with
    | false =>
      obtain ⟨v, hv, ht⟩ := ih _ w hap' hS (hn hwant)
      have hv := (Fl.put hsi hapr).1 hv
      have := Fl.unique hS hv0 hv
      subst this
      refine ⟨p, hp, fun hc => ?_, fun _ => ?_⟩
      · rw [want_put hapr.symm, hwant] at hc; cases hc
      · rw [put_put hapr.symm]; exact ht
    | true =>
      rcases hw hwant with ⟨hfp, u, hu, ht0⟩ | ⟨hfp, he⟩
      · obtain ⟨v, hv, ht⟩ := ih _ w hap' hS ht0
        have hv := (Fl.put hsi hapr).1 hv
        have := Fl.unique hS hv0 hv
        subst this
        refine ⟨p, hp, fun _ => .inl ⟨hfp, u, ?_, ?_⟩, fun hc => ?_⟩
        · rw [run_put hsp hapr.symm]; exact hu
        · rw [put_put hapr.symm]; exact ht
        · rw [want_put hapr.symm, hwant] at hc; cases hc
      · refine ⟨p, hp, fun _ => .inr ⟨hfp, ?_⟩, fun hc => ?_⟩
        · rw [eff_put hsp hapr.symm]
          refine he.mono ?_
          rintro u w' ⟨hS', ht'⟩
          obtain ⟨v', hv', ht''⟩ := ih _ w' hap' hS' ht'
          have hv' := (Fl.put hsi hapr).1 hv'
          have := Fl.unique hS' hv0 hv'
          subst this
          refine ⟨hS', ?_⟩
          rw [put_put hapr.symm]; exact ht''
        · rw [want_put hapr.symm, hwant] at hc; cases hc

theorem T1.over (hns : ∀ (i : Nat) (o : Oper), l[i]? = some o → noSel o = true) {i : Nat} {oi : Oper} (hi : l[i]? = some oi) (hf : fl oi = false) (hsy : noSel oy = true) (hyd : (ancs l i).contains y = false) {R2 : List Nat} :
    ∀ (R1 : List Nat) (a : Act) (w : World), (∀ r ∈ R1, (ancs l r).contains y = false ∧ ∀ p : Oper, l[(r : Nat)]? = some p → Apart l p oi ∧ fl p = true ∧ Apart l oy p) → S w → T1 P fl ro l S Q y oy (R1 ++ i :: R2) a w →
      (Region.wanted oi (yielded l.toArray a.tmps) = true → Eff P ro oi a w fun v w' => S w' ∧ T1 P fl ro l S Q y oy (R1 ++ R2) (a.put oi.dst v) w') ∧
      (Region.wanted oi (yielded l.toArray a.tmps) = false → T1 P fl ro l S Q y oy (R1 ++ R2) (a.put oi.dst undef) w) := by
  intro R1
  induction R1 with
  | nil =>
    intro a w _ _ h
    simp only [List.nil_append] at h ⊢
    obtain ⟨o, ho, hw, hn⟩ := h.2 hyd
    rw [hi] at ho
    cases ho
    refine ⟨fun hwant => ?_, hn⟩
    rcases hw hwant with ⟨hff, _⟩ | ⟨_, he⟩
    · rw [hf] at hff; cases hff
    · exact he
  | cons r R1 ih =>
    intro a w hap hS h
    obtain ⟨hdr, hapr0⟩ := hap r List.mem_cons_self
    obtain ⟨p, hp, hw, hn⟩ := h.2 hdr
    obtain ⟨hapr, hfp, hyp⟩ := hapr0 p hp
    have hap' : ∀ r ∈ R1, (ancs l r).contains y = false ∧ ∀ p : Oper, l[(r : Nat)]? = some p → Apart l p oi ∧ fl p = true ∧ Apart l oy p := fun r hr => hap r (List.mem_cons_of_mem _ hr)
    have hsp := hns _ _ hp
    have hsi := hns _ _ hi
    -- p reads: its value, and what is left when it has run
    have key : ∃ u, Fl P l S p a u ∧ T1 P fl ro l S Q y oy (R1 ++ i :: R2) (a.put p.dst u) w := by
      cases hwant : Region.wanted p (yielded l.toArray a.tmps) with
      | false => exact ⟨undef, ⟨fun hc => (by rw [hwant] at hc; cases hc), fun _ => rfl⟩, hn hwant⟩
      | true =>
        rcases hw hwant with ⟨_, u, hu, ht0⟩ | ⟨hff, _⟩
        · exact ⟨u, ⟨fun _ => hu, fun hc => (by rw [hwant] at hc; cases hc)⟩, ht0⟩
        · rw [hfp] at hff; cases hff
    obtain ⟨u, hu, ht⟩ := key
    obtain ⟨h1, h2⟩ := ih _ w hap' hS ht
    rw [want_put hapr] at h1 h2
    -- back: p is laid ahead again
    have back : ∀ v w', S w' → T1 P fl ro l S Q y oy (R1 ++ R2) ((a.put p.dst u).put oi.dst v) w' → T1 P fl ro l S Q y oy (r :: (R1 ++ R2)) (a.put oi.dst v) w' := by
      intro v w' hS' ht'
      rw [← put_put hapr.symm] at ht'
      have hu' : Fl P l S p (a.put oi.dst v) u := (Fl.put hsp hapr.symm).2 hu
      refine ⟨?_, fun _ => ⟨p, hp, fun hc => .inl ⟨hfp, u, hu'.1 hc, ht'⟩, fun hc => ?_⟩⟩
      · have han := ht'.an
        unfold AN at han ⊢
        rw [eff_put hsy hyp.symm] at han
        refine han.mono ?_
        rintro g w2 ⟨hS2, hT⟩
        refine ⟨hS2, p, hp, fun hc => .inl ⟨hfp, u, ?_, ?_⟩, fun hc => ?_⟩
        · rw [run_put hsp hyp]
          rw [want_put hyp] at hc
          exact hu'.1 hc
        · rw [put_put hyp]; exact hT
        · rw [want_put hyp] at hc
          have := hu'.2 hc
          subst this
          rw [put_put hyp]; exact hT
      · have := hu'.2 hc
        subst this
        exact ht'
    refine ⟨fun hwi => ?_, fun hwi => back _ _ hS (h2 hwi)⟩
    have he := h1 hwi
    rw [eff_put hsi hapr] at he
    exact he.mono fun v w' ⟨hS', ht'⟩ => ⟨hS', back _ _ hS' ht'⟩

/-- May the region be walked in the order of the text, y at any time before its first use? -/
def okFloat (fl : Oper → Bool) (y : Nat) (l : List Oper) : Bool :=
  let an := ancT l []
  okBack l && (match l[y]? with | some oy => oy.guard.isNone | none => false) &&
  (List.range l.length).all fun i => Nat.beq i y || match l[i]?, l[y]? with
    | some o, some oy => ((an.getD i []).contains y || (oy.apart l.toArray o && o.apart l.toArray oy)) &&
      ((List.range i).all fun j => Nat.beq j y || match l[j]? with
        | none => true
        | some p => ((an.getD i []).contains j || (p.apart l.toArray o && o.apart l.toArray p && (fl o || fl p))) && (fl o || (an.getD i []).contains y || !(an.getD j []).contains y))
    | _, _ => false
theorem okFloat_at (h : okFloat fl y l = true) {i : Nat} {o : Oper} (ho : l[i]? = some o) (hne : i ≠ y) : ∃ oy, l[y]? = some oy ∧ oy.guard = none ∧ (y ∈ ancs l i ∨ Apart l oy o) ∧
    ∀ j p, j < i → j ≠ y → l[j]? = some p → (j ∈ ancs l i ∨ (Apart l p o ∧ (fl o = true ∨ fl p = true))) ∧ (fl o = true ∨ y ∈ ancs l i ∨ (ancs l j).contains y = false) := by
  simp only [okFloat, Bool.and_eq_true] at h
  obtain ⟨⟨_, h1⟩, h2⟩ := h
  have hlt : i < l.length := (List.getElem?_eq_some_iff.1 ho).1
  have h3 := List.all_eq_true.1 h2 i (List.mem_range.2 hlt)
  have hb : Nat.beq i y = false := by
    cases hb : Nat.beq i y with
    | false => rfl
    | true => exact absurd (Nat.eq_of_beq_eq_true hb) hne
  cases hy : l[y]? with
  | none => rw [hy] at h1; cases h1
  | some oy =>
    rw [hy] at h1
    simp only [ho, hy, hb, Bool.false_or, Bool.and_eq_true, Bool.or_eq_true] at h3
    refine ⟨oy, rfl, by simpa using h1, ?_, fun j p hj hjy hp => ?_⟩
    · rcases h3.1 with h4 | ⟨h4, h5⟩
      · exact .inl (List.contains_iff_mem.1 h4)
      · exact .inr ⟨h4, h5⟩
    · have h4 := List.all_eq_true.1 h3.2 j (List.mem_range.2 hj)
      have hb2 : Nat.beq j y = false := by
        cases hb : Nat.beq j y with
        | false => rfl
        | true => exact absurd (Nat.eq_of_beq_eq_true hb) hjy
      simp only [hp, hb2, Bool.false_or, Bool.and_eq_true, Bool.or_eq_true, Bool.not_eq_true'] at h4
      refine ⟨?_, ?_⟩
      · rcases h4.1 with h5 | ⟨⟨h5, h6⟩, h7⟩
        · exact .inl (List.contains_iff_mem.1 h5)
        · exact .inr ⟨⟨h5, h6⟩, h7⟩
      · rcases h4.2 with (h5 | h5) | h5
        · exact .inl h5
        · exact .inr (.inl (List.contains_iff_mem.1 h5))
        · exact .inr (.inr h5)
def others (l : List Oper) (y : Nat) : List Nat := (List.range l.length).filter fun i => !Nat.beq i y
theorem mem_others {i : Nat} : i ∈ others l y ↔ i < l.length ∧ i ≠ y := by
  simp only [others, List.mem_filter, List.mem_range, Bool.not_eq_true']
  refine ⟨fun ⟨h1, h2⟩ => ⟨h1, fun e => ?_⟩, fun ⟨h1, h2⟩ => ⟨h1, ?_⟩⟩
  · subst e; rw [Nat.beq_refl] at h2; cases h2
  · cases hb : Nat.beq i y with
    | false => rfl
    | true => exact absurd (Nat.eq_of_beq_eq_true hb) h2
theorem region_float (hok : okFloat fl y l = true) (hy : l[y]? = some oy) (hm : P.follows .mixedOrders = true) {id : Nat} {a : Act} {w : World} (hS : S w.drew)
    (h : T1 P fl ro l S Q y oy (others l y) a w.drew) : (Code.region id l.toArray true).wpIn (FR ro) 0 P Q a w := by
  have hb : okBack l = true := by simp only [okFloat, Bool.and_eq_true] at hok; exact hok.1.1
  have hns := okBack_ns hb
  have hsy := hns _ _ hy
  have hgy : oy.guard = none := by
    simp only [okFloat, Bool.and_eq_true, hy] at hok
    simpa using hok.1.2
  have hyl : y < l.length := (List.getElem?_eq_some_iff.1 hy).1
  have hpw : (others l y).Pairwise (· < ·) := List.pairwise_lt_range.filter _
  have hnd : (others l y).Nodup := hpw.imp fun h => Nat.ne_of_lt h
  let I : Array Bool → Act → World → Prop := fun listed a w => S w ∧ ((listed.getD y false = true ∧ Tx P fl ro l S Q (rest (others l y) listed) a w) ∨ (listed.getD y false = false ∧ T1 P fl ro l S Q y oy (rest (others l y) listed) a w))
  refine region_inv hb hm I ?_ ?_ ?_
  · refine ⟨hS, .inr ⟨?_, ?_⟩⟩
    · rw [Array.getD_eq_getD_getElem?, Array.getElem?_replicate]; split <;> rfl
    · have : rest (others l y) (Array.replicate l.length false) = others l y := by
        unfold rest
        rw [List.filter_eq_self]
        intro i hi
        have := (mem_others.1 hi).1
        simp [this]
      rw [this]; exact h
  · intro listed a w i o hsz hcl hI ho hf hdeps
    have hlt : i < l.length := (List.getElem?_eq_some_iff.1 ho).1
    obtain ⟨hSw, hI⟩ := hI
    by_cases hiy : i = y
    · subst hiy
      rw [hy] at ho; cases ho
      have hT : T1 P fl ro l S Q i oy (rest (others l i) listed) a w := by
        rcases hI with ⟨h1, _⟩ | ⟨_, h1⟩
        · rw [hf] at h1; cases h1
        · exact h1
      have hwant : Region.wanted oy (yielded l.toArray a.tmps) = true := by simp [Region.wanted, hgy]
      refine ⟨fun _ => hT.an.mono ?_, fun hc => by rw [hwant] at hc; cases hc⟩
      rintro v w' ⟨hS', hT'⟩
      refine ⟨hS', .inl ⟨?_, ?_⟩⟩
      · rw [Array.getD_eq_getD_getElem?, Array.getElem?_setIfInBounds, if_pos rfl, if_pos (by omega)]; rfl
      · have : rest (others l i) (listed.setIfInBounds i true) = rest (others l i) listed := by
          unfold rest
          apply List.filter_congr
          intro j hj
          rw [getD_set_ne true (Ne.symm (mem_others.1 hj).2)]
        rw [this]; exact hT'
    · have hio : i ∈ others l y := mem_others.2 ⟨hlt, hiy⟩
      have hft : listed.getD i true = false := by rw [getD_both (by omega)]; exact hf
      have hancl : ∀ r ∈ ancs l i, listed.getD r false = true := fun r hr => ancT_sound hcl l [] [] rfl rfl (fun i o h => by simp at h) i o ho hdeps r hr
      have hyk : (listed.setIfInBounds i true).getD y false = listed.getD y false := getD_set_ne false hiy
      obtain ⟨oy', hy', _, hay, hpairs⟩ := okFloat_at hok ho hiy
      rw [hy] at hy'; cases hy'
      have hanc : ∀ r, r < i → listed.getD r true = false → r ∈ others l y → ∀ p : Oper, l[(r : Nat)]? = some p → Apart l p o ∧ (fl o = true ∨ fl p = true) := fun r hr hu hro p hp => by
        rcases (hpairs r p hr (mem_others.1 hro).2 hp).1 with h1 | h1
        · have := hancl r h1
          rw [getD_both (by have := (mem_others.1 hro).1; omega)] at hu
          rw [this] at hu; cases hu
        · exact h1
      rcases hI with ⟨hyl2, hT⟩ | ⟨hyl2, hT⟩
      · obtain ⟨h1, h2⟩ := step_of_Tx (fl := fl) hns hnd hpw hio ho (by omega) hft hanc hSw hT
        exact ⟨fun hw => (h1 hw).mono fun v w' ⟨hS', ht⟩ => ⟨hS', .inl ⟨hyk.trans hyl2, ht⟩⟩, fun hw => ⟨hSw, .inl ⟨hyk.trans hyl2, h2 hw⟩⟩⟩
      · have hyi : y ∉ ancs l i := fun hm => by have := hancl y hm; rw [hyl2] at this; cases this
        have hyd : (ancs l i).contains y = false := by
          cases hc : (ancs l i).contains y with
          | false => rfl
          | true => exact absurd (List.contains_iff_mem.1 hc) hyi
        have hayo := hay.resolve_left hyi
        obtain ⟨R1, R2, hs1, hs2, hs3⟩ := filter_split (p := fun j => !listed.getD j true) hnd hio (by simp [hft]) hpw
        have hleft' : rest (others l y) (listed.setIfInBounds i true) = R1 ++ R2 := by
          rw [← hs3]
          unfold rest
          apply List.filter_congr
          intro j _
          by_cases hij : i = j
          · subst hij
            simp [show i < listed.size by omega]
          · rw [getD_set_ne true hij]
            simp [Ne.symm hij]
        have hmem : ∀ r ∈ R1, r ∈ others l y := fun r hr => by
          have : r ∈ (others l y).filter (fun j => !listed.getD j true) := by rw [hs1]; exact List.mem_append_left _ hr
          exact (List.mem_filter.1 this).1
        unfold rest at hT
        rw [hs1] at hT
        have fin : ∀ v w', S w' → T1 P fl ro l S Q y oy (R1 ++ R2) (a.put o.dst v) w' → I (listed.setIfInBounds i true) (a.put o.dst v) w' := fun v w' hS' ht => ⟨hS', .inr ⟨hyk.trans hyl2, by rw [hleft']; exact ht⟩⟩
        cases hfo : fl o with
        | true =>
          obtain ⟨v, hv, ht⟩ := T1.first hns ho hfo hsy hayo hyd R1 a w (fun r hr p hp => (hanc r (hs2 r hr).1 (by simpa using (hs2 r hr).2) (hmem r hr) p hp).1) hSw hT
          refine ⟨fun hw => ?_, fun hw => ?_⟩
          · unfold Eff
            rw [hv.1 hw w hSw]
            exact fin _ _ hSw ht
          · rw [hv.2 hw] at ht; exact fin _ _ hSw ht
        | false =>
          obtain ⟨h1, h2⟩ := T1.over hns ho hfo hsy hyd R1 a w (fun r hr => by
            have hr1 := (hs2 r hr).1
            have hr2 : listed.getD r true = false := by simpa using (hs2 r hr).2
            have hro := mem_others.1 (hmem r hr)
            have hrd : (ancs l r).contains y = false := by
              have hpr : l[r]? = some l[r] := List.getElem?_eq_getElem hro.1
              rcases (hpairs r l[r] hr1 hro.2 hpr).2 with h3 | h3 | h3
              · rw [hfo] at h3; cases h3
              · exact absurd h3 hyi
              · exact h3
            refine ⟨hrd, fun p hp => ?_⟩
            obtain ⟨h3, h4⟩ := hanc r hr1 hr2 (hmem r hr) p hp
            refine ⟨h3, h4.resolve_left (by rw [hfo]; simp), ?_⟩
            obtain ⟨oy2, hy2, _, hay2, _⟩ := okFloat_at hok hp hro.2
            rw [hy] at hy2; cases hy2
            exact hay2.resolve_left fun hm => by rw [List.contains_iff_mem.2 hm] at hrd; cases hrd) hSw hT
          exact ⟨fun hw => (h1 hw).mono fun v w' ⟨hS', ht⟩ => fin _ _ hS' ht, fun hw => fin _ _ hSw (h2 hw)⟩
  · intro listed a w hsz hI hall
    obtain ⟨_, hI⟩ := hI
    rcases hI with ⟨_, hT⟩ | ⟨h1, _⟩
    · have : rest (others l y) listed = [] := by
        unfold rest
        rw [List.filter_eq_nil_iff]
        intro k hk
        have hkl := (mem_others.1 hk).1
        rw [getD_both (by omega), hall k hkl]
        simp
      rw [this] at hT
      exact hT
    · rw [hall y hyl] at h1; cases h1
end
end Go.Eng
/- The engine, part thirty-five: walking a drawn region in which one new variable's block may be made at any time. Conditions: as part seven. -/
namespace Go.Eng
open Go Go.RowKit

/-- y is the making of a variable. -/
structure Fy (P : Program) (tt : Nat → Option TI) (l : List Oper) (N y dy t : Nat) (zs : List Value) (oy : Oper) : Prop where
  at' : l[y]? = some oy
  op : oy.op = .alloc t
  dst : oy.dst = some dy
  gd : oy.guard = none
  lt : dy < N
  ti : ∃ i, tt t = some i ∧ zlist i.zero = some zs
def am (t : Nat) (zs : List Value) : Option Nat → List SP
  | none => []
  | some g => [pt g t zs]
def ix (y k n : Nat) : List Nat := (List.range' k n).filter fun i => !Nat.beq i y
theorem ix_cons {y k n : Nat} (h : Nat.beq k y = false) : ix y k (n + 1) = k :: ix y (k + 1) n := by simp only [ix, List.range'_succ]; rw [List.filter_cons_of_pos (by rw [h]; rfl)]
theorem ix_skip {y n : Nat} : ix y y (n + 1) = ix y (y + 1) n := by simp only [ix, List.range'_succ]; rw [List.filter_cons_of_neg (by simp)]
theorem ix_all {y k n : Nat} (h : Nat.blt y k = true) : ix y k n = List.range' k n := by
  unfold ix
  rw [List.filter_eq_self]
  intro i hi
  have h1 := (List.mem_range'_1.1 hi).1
  have h2 : y < k := Nat.le_of_ble_eq_true h
  cases hb : Nat.beq i y with
  | false => rfl
  | true => have := Nat.eq_of_beq_eq_true hb; omega

section
variable {P : Program} {tt : Nat → Option TI} [TT P tt] {ro : Option Nat} {N : Nat} {l rest : List Oper} {Q : Exit → Act → World → Prop} {E : List (Nat × Value)} {ds : List Deferred} {b : World} {F F0 G : List SP} {fl : Oper → Bool} {k : Nat}
  {y dy t : Nat} {zs : List Value} {oy o : Oper}

structure SV (P : Program) (tt : Nat → Option TI) (fl : Oper → Bool) (ro : Option Nat) (N : Nat) (F0 : List SP) (y dy t : Nat) (zs : List Value) (oy : Oper) (l : List Oper) (k : Nat) (rest : List Oper) (Q : Exit → Act → World → Prop) (E : List (Nat × Value)) (ds : List Deferred) (b : World) (F : List SP) : Prop where
  run : Fy P tt l N y dy t zs oy → ∀ (m : Option Nat) (w : World), Sat b (F ++ am t zs m) w → Sat b F0 w → ∀ a, Kn N E a → (∀ g, m = some g → a.tmps[dy]? = some (.pointer (some ⟨g, 0, none⟩))) → a.defers = ds → (∀ j : Nat, j < rest.length → rest[j]? = l[k + j]?) →
    (m = none → T1 P fl ro l (Sat b F0) Q y oy (ix y k rest.length) a w) ∧ (m.isSome = true → Tx P fl ro l (Sat b F0) Q (ix y k rest.length) a w)

theorem ent_pre (A : List SP) : Ent (F ++ A) F := by
  rintro m ⟨H, a, b, c⟩
  refine ⟨H, a, b, fun i X hX => c i X ?_⟩
  rw [nth_append]
  have : i < F.length := by rw [nth_eq] at hX; exact (List.getElem?_eq_some_iff.1 hX).1
  rw [if_pos this]; exact hX
/-- The alloc, at whatever time. -/
theorem fy_eff (hy : Fy P tt l N y dy t zs oy) {a : Act} {w : World} (H : Sat b F w) (H0 : Sat b F0 w) {n : Value → World → Prop} (h : ∀ g w', Sat b (F ++ [pt g t zs]) w' → Sat b F0 w' → n (.pointer (some ⟨g, 0, none⟩)) w') : Eff P ro oy a w n := by
  obtain ⟨i, ht, hz⟩ := hy.ti
  have hx := ex_alloc (P := P) (E := []) (ty := oy.type) (w := w) ht
  unfold Eff
  have hev : ∀ x u, ev ([] : List (Nat × Value)) x = some u → a.eval x = u := fun x u hxu => by
    cases x with
    | tmp t => simp [ev, look] at hxu
    | const v => simp [ev] at hxu; subst hxu; rfl
    | global g => simp [ev] at hxu; subst hxu; rfl
    | func f => simp [ev] at hxu; subst hxu; rfl
  rw [hx a.eval oy hev hy.op rfl]
  have hB := Blk.new w t i.zero.cells.toList
  rw [zlist_eq hz] at hB
  have e : zs.toArray = i.zero.cells := by rw [← zlist_eq hz]
  rw [e] at hB
  have hE := Fr.alloc (S := fun _ => False) w (.cells i.zero.cells t)
  refine h _ _ ((H.alloc hE hB (Nat.le_refl _)).ent (ent_perm (List.perm_append_singleton _ _).symm)) (H0.ext hE)
theorem put_other {a : Act} {d : Nat} {v u : Value} (hd : Nat.beq d dy = false) (h : a.tmps[dy]? = some u) : (a.put (some d) v).tmps[dy]? = some u := by
  have hne : d ≠ dy := fun e => by subst e; rw [Nat.beq_refl] at hd; cases hd
  simp only [Act.put]
  rw [Array.getElem?_setIfInBounds_ne hne]
  exact h
theorem kn_dy {E : List (Nat × Value)} {a : Act} (hk : Kn N E a) (hE : look E dy = none) (v : Value) : Kn N E (a.put (some dy) v) := by
  refine ⟨by simp [Act.put, hk.1], fun i u hi => ?_⟩
  have hne : dy ≠ i := fun e => by subst e; rw [hE] at hi; cases hi
  simp only [Act.put]
  rw [Array.getElem?_setIfInBounds_ne hne]
  exact hk.2 i u hi
def Tm (P : Program) (fl : Oper → Bool) (ro : Option Nat) (l : List Oper) (S : World → Prop) (Q : Exit → Act → World → Prop) (y : Nat) (oy : Oper) (R : List Nat) (m : Option Nat) (a : Act) (w : World) : Prop :=
  (m = none → T1 P fl ro l S Q y oy R a w) ∧ (m.isSome = true → Tx P fl ro l S Q R a w)
def Hd (P : Program) (fl : Oper → Bool) (ro : Option Nat) (l : List Oper) (S : World → Prop) (Q : Exit → Act → World → Prop) (y : Nat) (oy : Oper) (k : Nat) (R : List Nat) (m : Option Nat) (a : Act) (w : World) : Prop :=
  ∃ o, l[k]? = some o ∧ (Region.wanted o (yielded l.toArray a.tmps) = true →
    (fl o = true ∧ ∃ v, (∀ W, S W → (execOp a.eval o).run P W = .ok (.value v) W) ∧ Tm P fl ro l S Q y oy R m (a.put o.dst v) w) ∨
    (fl o = false ∧ Eff P ro o a w fun v w' => S w' ∧ Tm P fl ro l S Q y oy R m (a.put o.dst v) w')) ∧
    (Region.wanted o (yielded l.toArray a.tmps) = false → Tm P fl ro l S Q y oy R m (a.put o.dst undef) w)
/-- One operation ahead of the others. -/
theorem sv_cons (hky : Nat.beq k y = false) (hE : look E dy = none)
    (hs : Fy P tt l N y dy t zs oy → ∀ (m : Option Nat) (w : World), Sat b (F ++ am t zs m) w → Sat b F0 w → ∀ a, Kn N E a → (∀ g, m = some g → a.tmps[dy]? = some (.pointer (some ⟨g, 0, none⟩))) → a.defers = ds →
      l[k]? = some o → (∀ j : Nat, j < rest.length → rest[j]? = l[(k + 1) + j]?) → Hd P fl ro l (Sat b F0) Q y oy k (ix y (k + 1) rest.length) m a w) :
    SV P tt fl ro N F0 y dy t zs oy l k (o :: rest) Q E ds b F := by
  constructor
  intro hy
  have hsome : ∀ g w, Sat b (F ++ [pt g t zs]) w → Sat b F0 w → ∀ a, Kn N E a → a.tmps[dy]? = some (.pointer (some ⟨g, 0, none⟩)) → a.defers = ds → (∀ j : Nat, j < (o :: rest).length → (o :: rest)[j]? = l[k + j]?) → Tx P fl ro l (Sat b F0) Q (ix y k (rest.length + 1)) a w := by
    intro g w H H0 a hk hsl hd hl
    obtain ⟨ho, hl'⟩ := dw_tail hl
    obtain ⟨o', ho', h1, h2⟩ := hs hy (some g) w H H0 a hk (fun g' e => by cases e; exact hsl) hd ho hl'
    rw [ix_cons hky]
    refine ⟨o', ho', fun hw => ?_, fun hw => (h2 hw).2 rfl⟩
    rcases h1 hw with ⟨hf, v, hv, hT⟩ | ⟨hf, he⟩
    · exact .inl ⟨hf, v, hv, hT.2 rfl⟩
    · exact .inr ⟨hf, he.mono fun v w' ⟨hS', hT⟩ => ⟨hS', hT.2 rfl⟩⟩
  intro m w H H0 a hk hsl hd hl
  cases m with
  | some g => exact ⟨(fun h => by cases h), fun _ => hsome g w H H0 a hk (hsl g rfl) hd hl⟩
  | none =>
    refine ⟨fun _ => ?_, (fun h => by cases h)⟩
    obtain ⟨ho, hl'⟩ := dw_tail hl
    have hF : Sat b F w := H.ent (ent_pre _)
    have hAN : AN P fl ro l (Sat b F0) Q oy (ix y k (rest.length + 1)) a w := fy_eff hy hF H0 fun g w' H1 H2 => by
      refine ⟨H2, ?_⟩
      rw [hy.dst]
      refine hsome g w' H1 H2 _ (kn_dy hk hE _) ?_ (by rw [put_defers']; exact hd) hl
      simp only [Act.put]
      rw [Array.getElem?_setIfInBounds_self_of_lt (by rw [hk.1]; exact hy.lt)]
    show T1 P fl ro l (Sat b F0) Q y oy (ix y k (rest.length + 1)) a w
    rw [ix_cons hky] at hAN ⊢
    refine ⟨hAN, fun _ => ?_⟩
    obtain ⟨o', ho', h1, h2⟩ := hs hy none w H H0 a hk hsl hd ho hl'
    refine ⟨o', ho', fun hw => ?_, fun hw => (h2 hw).1 rfl⟩
    rcases h1 hw with ⟨hf, v, hv, hT⟩ | ⟨hf, he⟩
    · exact .inl ⟨hf, v, hv, hT.1 rfl⟩
    · exact .inr ⟨hf, he.mono fun v w' ⟨hS', hT⟩ => ⟨hS', hT.1 rfl⟩⟩

variable {d : Nat} {op : Op} {ty : TypeId} {pos : String} {aft : Array Edge} {g : Option (Nat × Bool)} {v : Value}
theorem sv_skip (hky : Nat.beq k y = false) (hE : look E dy = none) (hdy : Nat.beq d dy = false) (hg : wants l E g = some false) (hd : Nat.blt d N = true) (h : SV P tt fl ro N F0 y dy t zs oy l (k + 1) rest Q ((d, undef) :: E) ds b F) :
    SV P tt fl ro N F0 y dy t zs oy l k (⟨some d, op, ty, pos, aft, g⟩ :: rest) Q E ds b F := sv_cons hky hE fun hy m w H H0 a hk hsl hds ho hl => by
  have hw := wanted_of (o := ⟨some d, op, ty, pos, aft, g⟩) hk hg
  refine ⟨_, ho, fun hc => ?_, fun _ => h.run hy m w H H0 _ (hk.put hd) (fun g' e => put_other hdy (hsl g' e)) (by rw [put_defers']; exact hds) hl⟩
  rw [hw] at hc; cases hc
theorem sv_rd (hky : Nat.beq k y = false) (hE : look E dy = none) (hdy : Nat.beq d dy = false) (hg : wants l E g = some true) (hf : fl ⟨some d, op, ty, pos, aft, g⟩ = true) (hx : ∀ W, Sat b F0 W → Ex P E op ty W v W) (hd : Nat.blt d N = true)
    (h : SV P tt fl ro N F0 y dy t zs oy l (k + 1) rest Q ((d, v) :: E) ds b F) : SV P tt fl ro N F0 y dy t zs oy l k (⟨some d, op, ty, pos, aft, g⟩ :: rest) Q E ds b F := sv_cons hky hE fun hy m w H H0 a hk hsl hds ho hl => by
  have hw := wanted_of (o := ⟨some d, op, ty, pos, aft, g⟩) hk hg
  refine ⟨_, ho, fun _ => .inl ⟨hf, v, fun W hW => hx W hW a.eval _ hk.hyp rfl rfl, h.run hy m w H H0 _ (hk.put hd) (fun g' e => put_other hdy (hsl g' e)) (by rw [put_defers']; exact hds) hl⟩, fun hc => ?_⟩
  rw [hw] at hc; cases hc
theorem sv_pu (hky : Nat.beq k y = false) (hE : look E dy = none) (hdy : Nat.beq d dy = false) (hg : wants l E g = some true) (hx : Pu P E op ty v) (hf : fl ⟨some d, op, ty, pos, aft, g⟩ = true) (hd : Nat.blt d N = true)
    (h : SV P tt fl ro N F0 y dy t zs oy l (k + 1) rest Q ((d, v) :: E) ds b F) : SV P tt fl ro N F0 y dy t zs oy l k (⟨some d, op, ty, pos, aft, g⟩ :: rest) Q E ds b F := sv_rd hky hE hdy hg hf (fun W _ => hx W) hd h
theorem sv_1 (hky : Nat.beq k y = false) (hE : look E dy = none) (hdy : Nat.beq d dy = false) (h1 : step1 tt N l E o = some (d, v)) (hf : fl o = true ∨ wants l E o.guard = some false) (h : SV P tt fl ro N F0 y dy t zs oy l (k + 1) rest Q ((d, v) :: E) ds b F) : SV P tt fl ro N F0 y dy t zs oy l k (o :: rest) Q E ds b F := by
  obtain ⟨op, ty, pos, aft, g, rfl, h2, ⟨h3, h4⟩ | ⟨h3, rfl⟩⟩ := step1_inv h1
  · rcases hf with hf | hf
    · exact sv_pu hky hE hdy h3 (pevx_sound h4) hf h2 h
    · rw [h3] at hf; cases hf
  · exact sv_skip hky hE hdy h3 h2 h
theorem sv_2 {c : Prop} (hky : Nat.beq k y = false) (hE : look E dy = none) (hdy : Nat.beq d dy = false) (h1 : step2 tt N l E o = some (d, c, v)) (hf : fl o = true) (hc : c) (h : SV P tt fl ro N F0 y dy t zs oy l (k + 1) rest Q ((d, v) :: E) ds b F) : SV P tt fl ro N F0 y dy t zs oy l k (o :: rest) Q E ds b F := by
  obtain ⟨op, ty, pos, aft, g, rfl, h2, h3, h4⟩ := step2_inv h1
  exact sv_pu hky hE hdy h3 (pevy_sound h4 hc) hf h2 h
theorem sv_l {g' off t0 : Nat} {cs : List Value} {m : Option Nat} (q : Nat) (hky : Nat.beq k y = false) (hE : look E dy = none) (hdy : Nat.beq d dy = false) (h1 : ldv tt N l E o = some (d, g', off, m)) (hF : nth F0 q = some (pt g' t0 cs)) (hv : cellv cs off m = some v) (hf : fl o = true)
    (h : SV P tt fl ro N F0 y dy t zs oy l (k + 1) rest Q ((d, v) :: E) ds b F) : SV P tt fl ro N F0 y dy t zs oy l k (o :: rest) Q E ds b F := by
  obtain ⟨t, x, ty, pos, aft, g, i, rfl, h2, h3, h4, h5, h6⟩ := ldv_inv h1
  exact sv_rd hky hE hdy h3 hf (ld_ex q h4 h5 h6 hF hv) h2 h
/-- A call. -/
theorem sv_call {f : FuncId} {args : List Value} {R : Value → List SP → Prop} (hky : Nat.beq k y = false) (hE : look E dy = none) (hdy : Nat.beq d dy = false) (hg : wants l E g = some true) (hf : fl ⟨some d, op, ty, pos, aft, g⟩ = false) (hx : callOf E op = some (f, args)) [hb : Bodied P f] (hd : Nat.blt d N = true)
    (hs : ∀ A : List SP, SC P f args b (F ++ A) (fun v G => ∃ F', R v F' ∧ G = F' ++ A))
    (h : ∀ v F', R v F' → Ent F' F0 ∧ SV P tt fl ro N F0 y dy t zs oy l (k + 1) rest Q ((d, v) :: E) ds b F') : SV P tt fl ro N F0 y dy t zs oy l k (⟨some d, op, ty, pos, aft, g⟩ :: rest) Q E ds b F := sv_cons hky hE fun hy m w H H0 a hk hsl hds ho hl => by
  have hw := wanted_of (o := ⟨some d, op, ty, pos, aft, g⟩) hk hg
  refine ⟨_, ho, fun _ => .inr ⟨hf, ?_⟩, fun hc => ?_⟩
  · have hec := ec_call (P := P) (ty := ty) (w := w) hx
    unfold Eff
    rw [hec a.eval ⟨some d, op, ty, pos, aft, g⟩ hk.hyp rfl rfl]
    refine (hs (am t zs m) w H).mono ?_
    rintro e w' ⟨v, G, rfl, ⟨F', hR, rfl⟩, hG⟩
    obtain ⟨he, h'⟩ := h v F' hR
    have hF' : Sat b F0 w' := (hG.ent (ent_pre _)).ent he
    exact ⟨v, rfl, hF', h'.run hy m w' hG hF' _ (hk.put hd) (fun g' e => put_other hdy (hsl g' e)) (by rw [put_defers']; exact hds) hl⟩
  · rw [hw] at hc; cases hc
theorem sv_callE {f : FuncId} {args : List Value} (hky : Nat.beq k y = false) (hE : look E dy = none) (hdy : Nat.beq d dy = false) (hg : wants l E g = some true) (hf : fl ⟨some d, op, ty, pos, aft, g⟩ = false) (hx : callOf E op = some (f, args)) [hb : Bodied P f] (hd : Nat.blt d N = true)
    (hs : ∀ A : List SP, SC P f args b (F ++ A) (fun u G => u = v ∧ G = F ++ A)) (he : Ent F F0)
    (h : SV P tt fl ro N F0 y dy t zs oy l (k + 1) rest Q ((d, v) :: E) ds b F) : SV P tt fl ro N F0 y dy t zs oy l k (⟨some d, op, ty, pos, aft, g⟩ :: rest) Q E ds b F :=
  sv_call (R := fun u F' => u = v ∧ F' = F) hky hE hdy hg hf hx hd (fun A => (hs A).mono fun u G ⟨h1, h2⟩ => ⟨F, ⟨h1, rfl⟩, h2⟩) fun u F' ⟨h1, h2⟩ => by subst h1; subst h2; exact ⟨he, h⟩
/-- What runs with an effect. -/
theorem sv_ef {R : Value → List SP → Prop} (hky : Nat.beq k y = false) (hE : look E dy = none) (hdy : Nat.beq d dy = false) (hg : wants l E g = some true) (hf : fl ⟨some d, op, ty, pos, aft, g⟩ = false)
    (hx : ∀ (A : List SP) (w : World), Sat b (F ++ A) w → ∃ v w' F', Ex P E op ty w v w' ∧ Sat b (F' ++ A) w' ∧ R v F') (hd : Nat.blt d N = true)
    (h : ∀ v F', R v F' → Ent F' F0 ∧ SV P tt fl ro N F0 y dy t zs oy l (k + 1) rest Q ((d, v) :: E) ds b F') : SV P tt fl ro N F0 y dy t zs oy l k (⟨some d, op, ty, pos, aft, g⟩ :: rest) Q E ds b F := sv_cons hky hE fun hy m w H H0 a hk hsl hds ho hl => by
  have hw := wanted_of (o := ⟨some d, op, ty, pos, aft, g⟩) hk hg
  obtain ⟨v, w', F', hx1, hG, hR⟩ := hx (am t zs m) w H
  obtain ⟨he, h'⟩ := h v F' hR
  have hF' : Sat b F0 w' := (hG.ent (ent_pre _)).ent he
  refine ⟨_, ho, fun _ => .inr ⟨hf, ?_⟩, fun hc => ?_⟩
  · unfold Eff
    rw [hx1 a.eval ⟨some d, op, ty, pos, aft, g⟩ hk.hyp rfl rfl]
    exact ⟨hF', h'.run hy m w' hG hF' _ (hk.put hd) (fun g' e => put_other hdy (hsl g' e)) (by rw [put_defers']; exact hds) hl⟩
  · rw [hw] at hc; cases hc
/-- The variable's own place in the text. -/
theorem sv_at (h : SV P tt fl ro N F0 y dy t zs oy l (y + 1) rest Q E ds b F) : SV P tt fl ro N F0 y dy t zs oy l y (o :: rest) Q E ds b F := by
  have _ : TT P tt := inferInstance
  constructor
  intro hy m w H H0 a hk hsl hd hl
  have := h.run hy m w H H0 a hk hsl hd (dw_tail hl).2
  rw [List.length_cons, ix_skip]; exact this
/-- The first use. -/
theorem sv_join (hyk : Nat.blt y k = true) (hdep : (ancs l k).contains y = true) (hE : look E dy = none) (h : ∀ g, Ent (pt g t zs :: F) F0 ∧ SD P fl ro N F0 l k (o :: rest) Q ((dy, .pointer (some ⟨g, 0, none⟩)) :: E) ds b (pt g t zs :: F)) :
    SV P tt fl ro N F0 y dy t zs oy l k (o :: rest) Q E ds b F := by
  constructor
  intro hy
  have hsome : ∀ g w, Sat b (F ++ [pt g t zs]) w → Sat b F0 w → ∀ a, Kn N E a → a.tmps[dy]? = some (.pointer (some ⟨g, 0, none⟩)) → a.defers = ds → (∀ j : Nat, j < (o :: rest).length → (o :: rest)[j]? = l[k + j]?) → Tx P fl ro l (Sat b F0) Q (ix y k (rest.length + 1)) a w := by
    intro g w H H0 a hk hsl hd hl
    rw [ix_all hyk]
    have H' : Sat b (pt g t zs :: F) w := H.ent (ent_perm (List.perm_append_singleton _ _))
    have hk' : Kn N ((dy, .pointer (some ⟨g, 0, none⟩)) :: E) a := ⟨hk.1, fun i u hi => by
      simp only [look] at hi
      split at hi
      · rename_i hb
        have := Nat.eq_of_beq_eq_true hb
        subst this; cases hi; exact hsl
      · exact hk.2 i u hi⟩
    exact (h g).2.run w H' a hk' hd H0 hl
  intro m w H H0 a hk hsl hd hl
  cases m with
  | some g => exact ⟨(fun h => by cases h), fun _ => hsome g w H H0 a hk (hsl g rfl) hd hl⟩
  | none =>
    refine ⟨fun _ => ?_, (fun h => by cases h)⟩
    have hF : Sat b F w := H.ent (ent_pre _)
    have hAN : AN P fl ro l (Sat b F0) Q oy (ix y k (rest.length + 1)) a w := fy_eff hy hF H0 fun g w' H1 H2 => by
      refine ⟨H2, ?_⟩
      rw [hy.dst]
      refine hsome g w' H1 H2 _ (kn_dy hk hE _) ?_ (by rw [put_defers']; exact hd) hl
      simp only [Act.put]
      rw [Array.getElem?_setIfInBounds_self_of_lt (by rw [hk.1]; exact hy.lt)]
    show T1 P fl ro l (Sat b F0) Q y oy (ix y k (rest.length + 1)) a w
    have e : ix y k (rest.length + 1) = k :: List.range' (k + 1) rest.length := by rw [ix_all hyk, List.range'_succ]
    rw [e] at hAN ⊢
    exact ⟨hAN, fun hc => by rw [hdep] at hc; cases hc⟩
/-- A drawn region with a new variable that may come at any time. -/
theorem sw_float (y dy : Nat) {i : TI} (F0 : List SP) [hm : Mixed P] {id : Nat} (hok : okFloat fl y l = true) (hat : nth l y = some ⟨some dy, .alloc t, ty, pos, aft, none⟩) (ht : tt t = some i) (hz : zlist i.zero = some zs) (hd : Nat.blt dy N = true) (he : Ent F F0)
    (h : SV P tt fl ro N F0 y dy t zs ⟨some dy, .alloc t, ty, pos, aft, none⟩ l 0 l Q E ds b F) : SW P ro N (.region id l.toArray true) Q E ds b F := by
  have _ : TT P tt := inferInstance
  constructor
  intro w H a hk hda
  rw [nth_eq] at hat
  have H1 : Sat b F w.drew := H.ext (Fr.drew w)
  refine region_float hok hat hm.on (S := Sat b F0) (H1.ent he) ?_
  have := (h.run ⟨hat, rfl, rfl, rfl, Nat.le_of_ble_eq_true hd, i, ht, hz⟩ none w.drew (by simpa [am] using H1) (H1.ent he) a hk (fun _ e => by cases e) hda (fun j _ => by simp)).1 rfl
  have e : ix y 0 l.length = others l y := by unfold ix others; rw [List.range_eq_range']
  rw [e] at this
  exact this
end
end Go.Eng
/- The engine, part thirty-six: appending to the beginning of a row; cells of rows. Conditions: as part two. -/
namespace Go.Eng
open Go Go.RowKit

section
variable {P : Program} {tt : Nat → Option TI} [TT P tt] {ro : Option Nat} {N : Nat} {l rest : List Oper} {Q : Exit → Act → World → Prop} {E : List (Nat × Value)} {ds : List Deferred} {b : World} {F F0 G : List SP} {fl : Oper → Bool} {kk : Nat}
  {d : Nat} {op : Op} {ty : TypeId} {pos : String} {aft : Array Edge} {g : Option (Nat × Bool)} {v : Value}
theorem ex_appendP {t e n j m sz s1 s2 c : Nat} {z1 : Value} {f1 : List (Nat × Nat)} {i : TI} {x y : Operand} {vx : Value} {A : Option Addr} {cs news : List Value} (k : Nat)
    (ht : tt t = some ⟨.slice e, s1, s2, z1, f1⟩) (he : tt e = some i) (hi : (Nat.beq i.zero.cells.size sz && Nat.beq i.size sz && Nat.ble i.bytes 2097152 && Nat.blt 0 sz) = true)
    (hx : ev E x = some (.slice A j c)) (hy : ev E y = some vx) (hF : nth F k = some (row e sz (.slice A n c) n cs)) (hj : j ≤ n) (hsl : ∀ w, Sat b F w → SL w sz vx m news) (h1 : ∀ u ∈ news, u.oneCell' = true) (hn : j + m ≤ 67108864) {Gf : Value → List SP} (hG : ∀ v', setF F k (row e sz v' (j + m) (cs.take (j * sz) ++ news)) = some (Gf v')) :
    ∀ w, Sat b F w → ∃ v' w', Ex P E (.call ⟨.builtin .append, ⟨[x, y]⟩, ⟨[t, t]⟩⟩) ty w v' w' ∧ Sat b (Gf v') w' := by
  have hi' := hi
  simp only [Bool.and_eq_true] at hi'
  obtain ⟨⟨⟨h1', h2'⟩, h3'⟩, h4'⟩ := hi'
  have e1 := Nat.eq_of_beq_eq_true h1'; have e2 := Nat.eq_of_beq_eq_true h2'; have e3 := Nat.le_of_ble_eq_true h3'; have e4 : 0 < sz := Nat.le_of_ble_eq_true h4'
  subst e2
  intro w H
  have hbytes : (j + m) * i.bytes ≤ 140737488355328 := Nat.le_trans (Nat.mul_le_mul hn e3) (by decide)
  obtain ⟨v', w', hrun, ho, hf, hnb⟩ := run_appendS (P := P) (ty := ty) ht he e1 e4 ((H.oat hF).take hj) (hsl w H) h1 (by unfold maxLen; omega) hbytes (Nat.zero_le _)
  refine ⟨v', w', ?_, ?_⟩
  · intro ρ o hρ hop' hty
    subst hty
    simp only [execOp, hop', resolve, invoke, builtin, Sem.run_bind, Sem.run_pure, Result.andThen]
    have e1 : Array.map ρ #[x, y] = #[.slice A j c, vx] := by simp [hρ _ _ hx, hρ _ _ hy]
    simp only [e1, hrun]
  · obtain ⟨h3, l3, hA, hn3⟩ := oat_row ho
    refine H.upd k hF hf (fun h4 l4 hA4 => ?_) (hG v')
    have key : ∀ q, (Value.slice A j c).ownBlock = some q → h4 q ≠ none := by
      intro q hq
      rcases hA4.2 with ⟨hv, _⟩ | ⟨g5, off5, cap5, cur5, hv, hh5, _⟩
      · simp only [Value.slice.injEq] at hv
        obtain ⟨rfl, _⟩ := hv
        cases hq
      · simp only [Value.slice.injEq] at hv
        obtain ⟨rfl, _⟩ := hv
        simp only [Value.ownBlock, Option.some.injEq] at hq
        subst hq; rw [hh5]; simp
    exact ⟨fun q _ hq => key q hq, h3, l3, hA, fun q hq => (hnb q (hn3 q hq).2).imp (key q) id⟩
theorem sd_appendP {t e n j m sz s1 s2 c : Nat} {z1 : Value} {f1 : List (Nat × Nat)} {i : TI} {x y : Operand} {vx : Value} {A : Option Addr} {cs news : List Value} (k : Nat) (hg : wants l E g = some true) (hf : fl ⟨some d, op, ty, pos, aft, g⟩ = false) (hd : Nat.blt d N = true)
    (hop : op = .call ⟨.builtin .append, ⟨[x, y]⟩, ⟨[t, t]⟩⟩) (ht : tt t = some ⟨.slice e, s1, s2, z1, f1⟩) (he : tt e = some i) (hi : (Nat.beq i.zero.cells.size sz && Nat.beq i.size sz && Nat.ble i.bytes 2097152 && Nat.blt 0 sz) = true)
    (hx : ev E x = some (.slice A j c)) (hy : ev E y = some vx) (hF : nth F k = some (row e sz (.slice A n c) n cs)) (hj : j ≤ n) (hsl : ∀ w, Sat b F w → SL w sz vx m news) (h1 : ∀ u ∈ news, u.oneCell' = true) (hn : j + m ≤ 67108864) {Gf : Value → List SP} (hG : ∀ v', setF F k (row e sz v' (j + m) (cs.take (j * sz) ++ news)) = some (Gf v'))
    (hE : ∀ v', Ent (Gf v') F0) (h : ∀ v', SD P fl ro N F0 l (kk + 1) rest Q ((d, v') :: E) ds b (Gf v')) : SD P fl ro N F0 l kk (⟨some d, op, ty, pos, aft, g⟩ :: rest) Q E ds b F := by
  subst hop
  constructor
  intro w H
  obtain ⟨v', w', h2, h3⟩ := ex_appendP (P := P) (ty := ty) k ht he hi hx hy hF hj hsl h1 hn hG w H
  exact dw_ex hg hf h2 (h3.ent (hE v')) hd ((h v').1 w' h3)
theorem row_cell {e sz n c gg off k : Nat} {cs : List Value} {u : Value} (hk : nth F k = some (row e sz (.slice (some ⟨gg, off, none⟩) n c) n cs)) {j : Nat} (hj : cs[j]? = some u) : ∀ w, Sat b F w → w.cell? ⟨gg, off + j, none⟩ = some u := fun w H => by
  obtain ⟨A, c', hv, hl, _, _, _, hc⟩ := H.sl hk
  simp only [Value.slice.injEq, true_and] at hv
  obtain ⟨rfl, rfl⟩ := hv
  have hlt : j < cs.length := (List.getElem?_eq_some_iff.1 hj).1
  have h0 : 0 < n := by
    rcases Nat.eq_zero_or_pos n with h | h
    · subst h; rw [hl] at hlt; omega
    · exact h
  obtain ⟨bb, off', hA, _, hcell⟩ := hc h0
  cases hA
  rw [hcell j hlt, hj]
theorem row_drop_sl {e sz n c k j : Nat} {A : Option Addr} {cs : List Value} (hk : nth F k = some (row e sz (.slice A n c) n cs)) (hj : j ≤ n) : ∀ w, Sat b F w → SL w sz (.slice (if c = j then A else A.map (·.add (j * sz))) (n - j) (c - j)) (n - j) (cs.drop (j * sz)) := fun w H => ((H.oat hk).drop hj).sl
theorem nth_app' {F A : List SP} {k : Nat} {X : SP} (h : nth F k = some X) : nth (F ++ A) k = some X := by
  rw [nth_append, if_pos (by rw [nth_eq] at h; exact (List.getElem?_eq_some_iff.1 h).1)]; exact h
theorem setF_app {A : List SP} {B : SP} : ∀ {F G : List SP} {k : Nat}, setF F k B = some G → setF (F ++ A) k B = some (G ++ A)
  | [], _, _, h => by simp [setF] at h
  | X :: F, G, 0, h => by simp only [setF, Option.some.injEq] at h; subst h; rfl
  | X :: F, G, k + 1, h => by
    simp only [setF] at h
    split at h
    · rename_i G' h1
      simp only [Option.some.injEq] at h
      subst h
      simp only [List.cons_append, setF, setF_app h1]
    · cases h
variable {k : Nat} {y dy tv : Nat} {zs : List Value} {oy : Oper}
theorem sv_ldA {t g' t0 off : Nat} {x : Operand} {i : TI} {cs vs : List Value} (q : Nat) (hky : Nat.beq k y = false) (hE : look E dy = none) (hdy : Nat.beq d dy = false) (hg : wants l E g = some true) (hop : op = .load t x) (ht : tt t = some i) (hagg : aggT i.desc = true) (hx : ev E x = some (.pointer (some ⟨g', off, none⟩))) (hF : nth F0 q = some (pt g' t0 cs)) (hv : segO cs off i.size = some vs) (hf : fl ⟨some d, op, ty, pos, aft, g⟩ = true) (hd : Nat.blt d N = true)
    (h : SV P tt fl ro N F0 y dy tv zs oy l (k + 1) rest Q ((d, .agg ⟨vs⟩) :: E) ds b F) : SV P tt fl ro N F0 y dy tv zs oy l k (⟨some d, op, ty, pos, aft, g⟩ :: rest) Q E ds b F := by
  subst hop; exact sv_rd hky hE hdy hg hf (ex_ldA q ht hagg hx hF hv) hd h
theorem sv_lit0 {t e s1 s2 : Nat} {z1 : Value} {f1 : List (Nat × Nat)} {i : TI} (hky : Nat.beq k y = false) (hE : look E dy = none) (hdy : Nat.beq d dy = false) (hg : wants l E g = some true) (hf : fl ⟨some d, op, ty, pos, aft, g⟩ = false) (hop : op = .buildSlice t 0 ⟨[]⟩) (ht : tt t = some ⟨.slice e, s1, s2, z1, f1⟩) (he : tt e = some i) (hd : Nat.blt d N = true) (hF : Ent F F0)
    (h : ∀ g', SV P tt fl ro N F0 y dy tv zs oy l (k + 1) rest Q ((d, .slice (some ⟨g', 0, none⟩) 0 0) :: E) ds b (pt g' e [] :: F)) : SV P tt fl ro N F0 y dy tv zs oy l k (⟨some d, op, ty, pos, aft, g⟩ :: rest) Q E ds b F := by
  subst hop
  refine sv_ef (R := fun v F' => ∃ g', v = .slice (some ⟨g', 0, none⟩) 0 0 ∧ F' = pt g' e [] :: F) hky hE hdy hg hf (fun A w H => ?_) hd ?_
  · exact ⟨_, _, pt w.heap.size e [] :: F, ex_buildSlice (vs := []) (cells := []) ht he rfl rfl (by omega) (fun z hz => by
      have : z = [] := List.eq_nil_of_length_eq_zero (by omega)
      subst this; rfl), H.alloc (Fr.alloc w _) (Blk.new w e []) (Nat.le_refl _), w.heap.size, rfl, rfl⟩
  · rintro v F' ⟨g', rfl, rfl⟩
    exact ⟨(ent_keep 1 [] rfl rfl).trans hF, h g'⟩
theorem sv_append {t e n m sz s1 s2 : Nat} {z1 : Value} {f1 : List (Nat × Nat)} {i : TI} {x y' : Operand} {vx : Value} {cs news : List Value} (q : Nat) (hky : Nat.beq k y = false) (hE : look E dy = none) (hdy : Nat.beq d dy = false) (hg : wants l E g = some true) (hf : fl ⟨some d, op, ty, pos, aft, g⟩ = false) (hd : Nat.blt d N = true)
    (hop : op = .call ⟨.builtin .append, ⟨[x, y']⟩, ⟨[t, t]⟩⟩) (ht : tt t = some ⟨.slice e, s1, s2, z1, f1⟩) (he : tt e = some i) (hi : (Nat.beq i.zero.cells.size sz && Nat.beq i.size sz && Nat.ble i.bytes 2097152 && Nat.blt 0 sz) = true)
    (hx : ev E x = some v) (hy : ev E y' = some vx) (hF : nth F q = some (row e sz v n cs)) (hsl : ∀ w, Sat b F w → SL w sz vx m news) (h1 : ∀ u ∈ news, u.oneCell' = true) (hn : n + m ≤ 67108864) {Gf : Value → List SP} (hG : ∀ v', setF F q (row e sz v' (n + m) (cs ++ news)) = some (Gf v'))
    (hE' : ∀ v', Ent (Gf v') F0) (h : ∀ v', SV P tt fl ro N F0 y dy tv zs oy l (k + 1) rest Q ((d, v') :: E) ds b (Gf v')) : SV P tt fl ro N F0 y dy tv zs oy l k (⟨some d, op, ty, pos, aft, g⟩ :: rest) Q E ds b F := by
  subst hop
  refine sv_ef (R := fun v' F' => F' = Gf v') hky hE hdy hg hf (fun A w H => ?_) hd ?_
  · obtain ⟨v', w', h2, h3⟩ := ex_append (P := P) (ty := ty) (b := b) (F := F ++ A) q ht he hi hx hy (nth_app' hF) (fun w H => hsl w (H.ent (ent_pre A))) h1 hn (fun v' => setF_app (hG v')) w H
    exact ⟨v', w', Gf v', h2, h3, rfl⟩
  · rintro v' F' rfl
    exact ⟨hE' v', h v'⟩
theorem sv_ent (he : Ent F G) (h : SV P tt fl ro N F0 y dy tv zs oy l k rest Q E ds b G) : SV P tt fl ro N F0 y dy tv zs oy l k rest Q E ds b F := by
  have _ : TT P tt := inferInstance
  constructor
  intro hy m w H H0
  refine h.run hy m w (H.ent ?_) H0
  -- a tail stays
  rintro u ⟨K, a, b', c⟩
  have h1 : SatH (all F :: am tv zs m) u := ent_close _ ⟨K, a, b', c⟩
  have h2 : SatH (all G :: am tv zs m) u := ent_set 0 rfl (fun h s => he h s) rfl _ h1
  exact ent_open _ h2
theorem sv_fact {p : Prop} (hp : ∀ w, Sat b F w → p) (h : p → SV P tt fl ro N F0 y dy tv zs oy l k rest Q E ds b F) : SV P tt fl ro N F0 y dy tv zs oy l k rest Q E ds b F :=
  have _ : TT P tt := inferInstance
  ⟨fun hy m w H => (h (hp w (H.ent (ent_pre _)))).run hy m w H⟩
theorem sv_know (i : Nat) {u : Value} (v : Value) (hdy : Nat.beq i dy = false) (hl : look E i = some u) (he : u = v) (h : SV P tt fl ro N F0 y dy tv zs oy l k rest Q ((i, v) :: E) ds b F) : SV P tt fl ro N F0 y dy tv zs oy l k rest Q E ds b F :=
  have _ : TT P tt := inferInstance
  ⟨fun hy m w H H0 a hk => h.run hy m w H H0 a (hk.know hl he)⟩
end
end Go.Eng
/- The engine, part thirty-seven: built structs whose fields are arrays. Conditions: as part two. -/
namespace Go.Eng
open Go Go.RowKit

/-- Segments laid one behind the other. -/
def cat : List (List Value) → List Value
  | [] => []
  | [a] => a
  | a :: l => a ++ cat l
theorem cat_cons (a : List Value) (l : List (List Value)) : cat (a :: l) = a ++ cat l := by
  cases l with
  | nil => simp [cat]
  | cons b l => rfl
def segs (zs : List Value) : List (Nat × Nat) → List (List Value)
  | [] => []
  | (o, n) :: l => (zs.drop o).take n :: segs zs l
def setS : List (List Value) → Nat → List Value → List (List Value)
  | [], _, _ => []
  | _ :: l, 0, c => c :: l
  | a :: l, k + 1, c => a :: setS l k c
def okPl : Nat → List (Nat × Nat) → Nat → Bool
  | o, [], t => Nat.beq o t
  | o, (q, n) :: l, t => Nat.beq o q && okPl (o + n) l t
/-- The cells of a value. -/
def zc : Value → List Value
  | .agg ⟨cs⟩ => cs
  | v => [v]
theorem zc_eq (v : Value) : v.cells.toList = zc v := by cases v <;> rfl
def condS (pl : List (Nat × Nat)) : List (Nat × Value) → Prop
  | [] => True
  | (k, v) :: l => (match nth pl k with | some p => (zc v).length = p.2 | none => False) ∧ condS pl l
def fillS (s : List (List Value)) : List (Nat × Value) → List (List Value)
  | [] => s
  | (k, v) :: l => fillS (setS s k (zc v)) l
/-- The segments are as long as the places say, from o on. -/
def fits : Nat → List (Nat × Nat) → List (List Value) → Prop
  | _, [], [] => True
  | o, (q, n) :: pl, a :: s => o = q ∧ a.length = n ∧ fits (o + n) pl s
  | _, _, _ => False
theorem fits_segs {zs : List Value} : ∀ {pl : List (Nat × Nat)} {o t : Nat}, okPl o pl t = true → t = zs.length → fits o pl (segs zs pl) ∧ cat (segs zs pl) = zs.drop o
  | [], o, t, h, ht => by
    have := Nat.eq_of_beq_eq_true h
    exact ⟨trivial, by rw [segs, cat, List.drop_of_length_le (by omega)]⟩
  | (q, n) :: pl, o, t, h, ht => by
    simp only [okPl, Bool.and_eq_true] at h
    obtain ⟨h1, h2⟩ := h
    have := Nat.eq_of_beq_eq_true h1
    subst this
    obtain ⟨i1, i2⟩ := fits_segs h2 ht
    have hle : o + n ≤ t := by
      clear i1 i2 ht
      revert h2
      generalize o + n = m
      induction pl generalizing m with
      | nil => intro h2; have := Nat.eq_of_beq_eq_true h2; omega
      | cons p pl ih =>
        intro h2
        obtain ⟨q, n'⟩ := p
        simp only [okPl, Bool.and_eq_true] at h2
        have := ih _ h2.2; omega
    refine ⟨⟨rfl, by rw [List.length_take, List.length_drop]; omega, i1⟩, ?_⟩
    rw [segs, cat_cons, i2, ← List.drop_drop, List.take_append_drop]
theorem fits_set : ∀ {pl : List (Nat × Nat)} {s : List (List Value)} {o k : Nat} {p : Nat × Nat} {c : List Value}, fits o pl s → nth pl k = some p → c.length = p.2 → fits o pl (setS s k c) ∧ o ≤ p.1 ∧ spl (cat s) (p.1 - o) c = cat (setS s k c) ∧ (p.1 - o) + p.2 ≤ (cat s).length
  | [], _, _, _, _, _, _, h, _ => by simp [nth] at h
  | (q, n) :: pl, [], _, _, _, _, h, _, _ => h.elim
  | (q, n) :: pl, a :: s, o, 0, p, c, h, hp, hc => by
    obtain ⟨rfl, h2, h3⟩ := h
    simp only [nth, Option.some.injEq] at hp
    subst hp
    dsimp only at hc
    refine ⟨⟨rfl, hc, h3⟩, Nat.le_refl _, ?_, ?_⟩
    · simp only [setS, cat_cons, spl, Nat.sub_self, List.take_zero, List.nil_append, Nat.zero_add]
      rw [hc, ← h2, List.drop_left]
    · rw [cat_cons, List.length_append, h2, Nat.sub_self]; dsimp only; omega
  | (q, n) :: pl, a :: s, o, k + 1, p, c, h, hp, hc => by
    obtain ⟨rfl, h2, h3⟩ := h
    simp only [nth] at hp
    obtain ⟨i1, i2, i3, i4⟩ := fits_set h3 hp hc
    refine ⟨⟨rfl, h2, i1⟩, by omega, ?_, ?_⟩
    · simp only [setS, cat_cons, ← i3, spl]
      have e : p.1 - o = a.length + (p.1 - (o + n)) := by omega
      rw [e, List.take_append, List.take_of_length_le (by omega), Nat.add_sub_cancel_left, Nat.add_assoc, List.drop_append, List.drop_of_length_le (by omega), List.nil_append, Nat.add_sub_cancel_left, List.append_assoc]
    · rw [cat_cons, List.length_append]; omega
theorem fill_segs {pl : List (Nat × Nat)} : ∀ {vs : List (Nat × Value)} {s : List (List Value)}, fits 0 pl s → condS pl vs → fillL (nth pl) (cat s) vs = some (cat (fillS s vs))
  | [], _, _, _ => rfl
  | (k, v) :: vs, s, h, hc => by
    obtain ⟨h1, h2⟩ := hc
    cases hp : nth pl k with
    | none => rw [hp] at h1; exact h1.elim
    | some p =>
      rw [hp] at h1
      dsimp only at h1
      obtain ⟨i1, _, i3, i4⟩ := fits_set h hp h1
      rw [Nat.sub_zero] at i3 i4
      have e1 : v.cells.size = p.2 := by rw [← h1, ← zc_eq, Array.length_toList]
      obtain ⟨off, size⟩ := p
      dsimp only at *
      have b1 : Nat.beq v.cells.size size = true := by rw [e1]; exact Nat.beq_refl _
      have b2 : Nat.ble (off + size) (cat s).length = true := Nat.ble_eq_true_of_le i4
      simp only [fillL, hp, b1, b2, fillS]
      rw [zc_eq, i3]
      exact fill_segs i1 h2
def pevB (tt : Nat → Option TI) (E : List (Nat × Value)) : Op → Option (Prop × Value)
  | .build t ⟨parts⟩ => match tt t with
    | some ⟨.struct _, _, _, .agg ⟨zs⟩, fs⟩ => match places tt fs, evp E parts with
      | some pl, some vs => match okPl 0 pl zs.length with
        | true => some (condS pl vs, .agg ⟨cat (fillS (segs zs pl) vs)⟩)
        | false => none
      | _, _ => none
    | _ => none
  | _ => none
section
variable {P : Program} {tt : Nat → Option TI} [TT P tt] {ro : Option Nat} {N : Nat} {l rest : List Oper} {Q : Exit → Act → World → Prop} {E : List (Nat × Value)} {ds : List Deferred} {b : World} {F F0 G : List SP} {fl : Oper → Bool} {kk : Nat}
  {d : Nat} {op : Op} {ty : TypeId} {pos : String} {aft : Array Edge} {g : Option (Nat × Bool)} {v : Value}
theorem pevB_sound {c : Prop} (h : pevB tt E op = some (c, v)) (hc : c) : Pu P E op ty v := by
  apply pevb_sound (tt := tt)
  unfold pevB at h
  split at h
  · rename_i t parts
    split at h
    · rename_i n s1 s2 zs fs h1
      split at h
      · rename_i pl vs h2 h3
        split at h
        · rename_i h4
          simp only [Option.some.injEq, Prod.mk.injEq] at h
          obtain ⟨rfl, rfl⟩ := h
          obtain ⟨f1, f2⟩ := fits_segs (zs := zs) h4 rfl
          have := fill_segs f1 hc
          rw [f2, List.drop_zero] at this
          simp only [pevb, h1, h2, h3, this]
        · cases h
      · cases h
    · cases h
  · cases h
theorem so_B {c : Prop} (hg : wants l E g = some true) (hx : pevB tt E op = some (c, v)) (hd : Nat.blt d N = true) (hc : c) (h : SO P ro N l rest Q ((d, v) :: E) ds b F) : SO P ro N l (⟨some d, op, ty, pos, aft, g⟩ :: rest) Q E ds b F := so_pu hg (pevB_sound hx hc) hd h
theorem sd_B {c : Prop} (hg : wants l E g = some true) (hx : pevB tt E op = some (c, v)) (hf : fl ⟨some d, op, ty, pos, aft, g⟩ = true) (hd : Nat.blt d N = true) (hc : c) (h : SD P fl ro N F0 l (kk + 1) rest Q ((d, v) :: E) ds b F) : SD P fl ro N F0 l kk (⟨some d, op, ty, pos, aft, g⟩ :: rest) Q E ds b F := sd_pu hg (pevB_sound hx hc) hf hd h
theorem sv_B {k y dy tv : Nat} {zs : List Value} {oy : Oper} {c : Prop} (hky : Nat.beq k y = false) (hE : look E dy = none) (hdy : Nat.beq d dy = false) (hg : wants l E g = some true) (hx : pevB tt E op = some (c, v)) (hf : fl ⟨some d, op, ty, pos, aft, g⟩ = true) (hd : Nat.blt d N = true) (hc : c)
    (h : SV P tt fl ro N F0 y dy tv zs oy l (k + 1) rest Q ((d, v) :: E) ds b F) : SV P tt fl ro N F0 y dy tv zs oy l k (⟨some d, op, ty, pos, aft, g⟩ :: rest) Q E ds b F := sv_pu hky hE hdy hg (pevB_sound hx hc) hf hd h
end
end Go.Eng
