/- The engine, part seven: a region that draws its order: walked once, in the order of the text, where what reads is asked in every world that meets S. Conditions: 'okDraw', reckoned; S is kept by each operation with an effect. -/
import Derived.Test.YtgebobjihojljaaEngF
import Derived.OrdersIn
namespace Go.Eng
open Go Go.RowKit

/-- Does an operation only yield a value (no new memory, no store, no call of a Go function)? -/
def flo (o : Oper) : Bool :=
  match o.op with
  | .move _ | .assign _ | .pick .. | .build .. | .load .. | .nilCheck _ | .binOp .. | .unOp .. | .makeInterface .. | .makeFunc .. | .slice .. | .fieldAddr .. | .field .. | .indexAddr ..
  | .index .. | .lookup .. | .typeAssert .. | .extract .. => true
  | .call { callee := .builtin .len, .. } | .call { callee := .builtin .cap, .. } | .call { callee := .builtin .max, .. } | .call { callee := .builtin .min, .. } => true
  | .convert _ _ _ => true
  | _ => false
/-- The same, where a conversion makes new memory. -/
def flo' (o : Oper) : Bool := match o.op with | .convert _ _ _ => false | _ => flo o

/-- Whom an operation waits for, at one remove or more: of each operation in turn. -/
def ancT : List Oper → List (List Nat) → List (List Nat)
  | [], acc => acc
  | o :: os, acc => ancT os (acc ++ [((o.after.toList.filter (Region.binds .any ·)).flatMap fun e => e.on :: (acc.getD e.on [])).eraseDups])

def noSel (o : Oper) : Bool := match o.op with | .select .. | .defer _ => false | _ => true

/-- May the region be walked in the order of the text? -/
def okDraw (fl : Oper → Bool) (l : List Oper) : Bool :=
  let an := ancT l []
  l.all noSel &&
  (List.range l.length).all fun i => match l[i]? with
    | none => true
    | some o =>
      (o.after.toList.all fun e => !Region.binds .any e || Nat.blt e.on i) &&
      (List.range i).all fun j => match l[j]? with
        | none => true
        | some p => (an.getD i []).contains j || (p.apart l.toArray o && o.apart l.toArray p && (fl o || fl p))

section
variable {P : Program} {ro : Option Nat} {l : List Oper} {Q : Exit → Act → World → Prop} {S : World → Prop} {fl : Oper → Bool}

/-- An operation runs, by whatever way, to a value; then 'next'. -/
def Eff (P : Program) (ro : Option Nat) (o : Oper) (a : Act) (w : World) (next : Value → World → Prop) : Prop :=
  match (execOp a.eval o).run P w with
  | .ok (.value v) w' => next v w'
  | .ok .skip w' => next undef w'
  | .ok (.enter f args) w' => Calls P f args w' fun e w'' => ∃ v, e = .returned v ∧ next v w''
  | .ok (.round k fn tmps assign body) w' => RoundIn (FR ro) 0 P k fn tmps assign body w' fun e w'' => ∃ v, e = .returned v ∧ next v w''
  | _ => False

theorem Eff.mono {o : Oper} {a : Act} {w : World} {n n' : Value → World → Prop} (h : Eff P ro o a w n) (hn : ∀ v w', n v w' → n' v w') : Eff P ro o a w n' := by
  unfold Eff at *
  generalize (execOp a.eval o).run P w = r at *
  split at h
  · exact hn _ _ h
  · exact hn _ _ h
  · exact Calls.mono h fun e w' ⟨v, he, hv⟩ => ⟨v, he, hn _ _ hv⟩
  · exact RoundIn.mono h fun e w' ⟨v, he, hv⟩ => ⟨v, he, hn _ _ hv⟩
  · exact h.elim

theorem Eff.some {o : Oper} {a : Act} {w : World} {n : Value → World → Prop} (h : Eff P ro o a w n) : ∃ v w', n v w' := by
  unfold Eff at h
  split at h
  · exact ⟨_, _, h⟩
  · exact ⟨_, _, h⟩
  · obtain ⟨e, w', fr, ⟨v, _, hv⟩, _⟩ := h []
    exact ⟨v, w', hv⟩
  · obtain ⟨e, w', ⟨v, _, hv⟩, _⟩ := h.2 default [] (room_wide _)
    exact ⟨v, w', hv⟩
  · exact h.elim

theorem Eff.wpIn {o : Oper} {a : Act} {w : World} {K : Act → World → Prop} (hd : ∀ c, o.op ≠ .defer c) (h : Eff P ro o a w fun v w' => K (a.put o.dst v) w') : o.wpIn (FR ro) 0 P a w K Q := by
  unfold Oper.wpIn
  refine ⟨fun f _ => FR_fn ro f, ?_⟩
  rw [Oper.semAt_eq _ _ _ hd]
  unfold Eff at h
  split at h
  · rename_i hr; rw [hr]; exact h
  · rename_i hr; rw [hr]; exact h
  · rename_i hr
    rw [hr, Oper.uponIn_enter]
    refine ⟨fun h => by simp [Fence.wide] at h, (calls_FR h).mono ?_⟩
    rintro e w' ⟨v, rfl, h'⟩
    exact h'
  · rename_i hr
    rw [hr, Oper.uponIn_round]
    refine ⟨fun h => by simp [Fence.wide] at h, RoundIn.mono h ?_⟩
    rintro e w' ⟨v, rfl, h'⟩
    exact h'
  · exact h.elim

/-- The walk in the order of the text, of the operations whose numbers are left. -/
def Tx (P : Program) (fl : Oper → Bool) (ro : Option Nat) (l : List Oper) (S : World → Prop) (Q : Exit → Act → World → Prop) : List Nat → Act → World → Prop
  | [], a, w => Q .normal a w
  | i :: R, a, w => ∃ o, l[i]? = some o ∧
      (Region.wanted o (yielded l.toArray a.tmps) = true →
        (fl o = true ∧ ∃ v, (∀ W, S W → (execOp a.eval o).run P W = .ok (.value v) W) ∧ Tx P fl ro l S Q R (a.put o.dst v) w) ∨
        (fl o = false ∧ Eff P ro o a w fun v w' => S w' ∧ Tx P fl ro l S Q R (a.put o.dst v) w')) ∧
      (Region.wanted o (yielded l.toArray a.tmps) = false → Tx P fl ro l S Q R (a.put o.dst undef) w)

/-- What a reading operation comes to. -/
def Fl (P : Program) (l : List Oper) (S : World → Prop) (o : Oper) (a : Act) (v : Value) : Prop :=
  (Region.wanted o (yielded l.toArray a.tmps) = true → ∀ W, S W → (execOp a.eval o).run P W = .ok (.value v) W) ∧ (Region.wanted o (yielded l.toArray a.tmps) = false → v = undef)

theorem Fl.unique {o : Oper} {a : Act} {v v' : Value} {w : World} (hS : S w) (h : Fl P l S o a v) (h' : Fl P l S o a v') : v = v' := by
  cases hw : Region.wanted o (yielded l.toArray a.tmps) with
  | true =>
    have h1 := h.1 hw w hS
    have h2 := h'.1 hw w hS
    rw [h1] at h2
    injection h2 with h3 _
    injection h3
  | false => rw [h.2 hw, h'.2 hw]

def Apart (l : List Oper) (o p : Oper) : Prop := o.apart l.toArray p = true ∧ p.apart l.toArray o = true

theorem noSel_select {o : Oper} (h : noSel o = true) : ∀ cs b, o.op ≠ .select cs b := fun cs b e => by simp [noSel, e] at h
theorem noSel_defer {o : Oper} (h : noSel o = true) : ∀ c, o.op ≠ .defer c := fun c e => by simp [noSel, e] at h

theorem run_put {o p : Oper} {a : Act} {u : Value} (hs : noSel o = true) (h : Apart l p o) : execOp (a.put p.dst u).eval o = execOp a.eval o :=
  execOp_put o (noSel_select hs) a p.dst u (Oper.apart_spec h.1).1
theorem want_put {o p : Oper} {a : Act} {u : Value} (h : Apart l p o) : Region.wanted o (yielded l.toArray (a.put p.dst u).tmps) = Region.wanted o (yielded l.toArray a.tmps) :=
  wanted_put o a p.dst u (Oper.apart_spec h.1).1
theorem put_put {o p : Oper} {a : Act} {u v : Value} (h : Apart l p o) : (a.put p.dst u).put o.dst v = (a.put o.dst v).put p.dst u :=
  Act.put_comm a u v (Oper.apart_spec h.1).2.1
theorem Apart.symm {o p : Oper} (h : Apart l o p) : Apart l p o := ⟨h.2, h.1⟩

theorem Fl.put {o p : Oper} {a : Act} {u v : Value} (hs : noSel o = true) (h : Apart l p o) : Fl P l S o (a.put p.dst u) v ↔ Fl P l S o a v := by
  unfold Fl
  rw [run_put hs h, want_put h]

/-- A reading operation may go first. -/
theorem Tx.first (hns : ∀ (i : Nat) (o : Oper), l[i]? = some o → noSel o = true) {i : Nat} {oi : Oper} (hi : l[i]? = some oi) (hf : fl oi = true) {R2 : List Nat} :
    ∀ (R1 : List Nat) (a : Act) (w : World), (∀ r ∈ R1, ∀ p : Oper, l[(r : Nat)]? = some p → Apart l p oi) → S w → Tx P fl ro l S Q (R1 ++ i :: R2) a w →
      ∃ v, Fl P l S oi a v ∧ Tx P fl ro l S Q (R1 ++ R2) (a.put oi.dst v) w := by
  intro R1
  induction R1 with
  | nil =>
    intro a w _ hS h
    simp only [List.nil_append] at h ⊢
    obtain ⟨o, ho, hw, hn⟩ := h
    rw [hi] at ho
    cases ho
    cases hwant : Region.wanted oi (yielded l.toArray a.tmps) with
    | true =>
      rcases hw hwant with ⟨_, v, hv, ht⟩ | ⟨hff, _⟩
      · exact ⟨v, ⟨fun _ => hv, fun hc => (by rw [hwant] at hc; cases hc)⟩, ht⟩
      · rw [hf] at hff; cases hff
    | false => exact ⟨undef, ⟨fun hc => (by rw [hwant] at hc; cases hc), fun _ => rfl⟩, hn hwant⟩
  | cons r R1 ih =>
    intro a w hap hS h
    obtain ⟨p, hp, hw, hn⟩ := h
    have hapr := hap r List.mem_cons_self p hp
    have hap' : ∀ r ∈ R1, ∀ p : Oper, l[(r : Nat)]? = some p → Apart l p oi := fun r hr => hap r (List.mem_cons_of_mem _ hr)
    have hsp := hns _ _ hp
    have hsi := hns _ _ hi
    cases hwant : Region.wanted p (yielded l.toArray a.tmps) with
    | false =>
      obtain ⟨v, hv, ht⟩ := ih _ w hap' hS (hn hwant)
      refine ⟨v, (Fl.put hsi hapr).1 hv, p, hp, fun hc => ?_, fun _ => ?_⟩
      · rw [want_put hapr.symm, hwant] at hc; cases hc
      · rw [put_put hapr.symm]; exact ht
    | true =>
      rcases hw hwant with ⟨hfp, u, hu, ht0⟩ | ⟨hfp, he⟩
      · obtain ⟨v, hv, ht⟩ := ih _ w hap' hS ht0
        refine ⟨v, (Fl.put hsi hapr).1 hv, p, hp, fun _ => .inl ⟨hfp, u, ?_, ?_⟩, fun hc => ?_⟩
        · rw [run_put hsp hapr.symm]; exact hu
        · rw [put_put hapr.symm]; exact ht
        · rw [want_put hapr.symm, hwant] at hc; cases hc
      · obtain ⟨u0, w0, hS0, ht0⟩ := he.some
        obtain ⟨v, hv, _⟩ := ih _ w0 hap' hS0 ht0
        have hv := (Fl.put hsi hapr).1 hv
        refine ⟨v, hv, p, hp, fun _ => .inr ⟨hfp, ?_⟩, fun hc => ?_⟩
        · unfold Eff at he ⊢
          rw [run_put hsp hapr.symm]
          refine (show Eff P ro p a w _ from he).mono ?_
          rintro u w' ⟨hS', ht'⟩
          obtain ⟨v', hv', ht''⟩ := ih _ w' hap' hS' ht'
          have hv' := (Fl.put hsi hapr).1 hv'
          have := Fl.unique hS' hv hv'
          subst this
          refine ⟨hS', ?_⟩
          rw [put_put hapr.symm]; exact ht''
        · rw [want_put hapr.symm, hwant] at hc; cases hc

/-- An operation with an effect may go ahead of reading ones. -/
theorem Tx.over (hns : ∀ (i : Nat) (o : Oper), l[i]? = some o → noSel o = true) {i : Nat} {oi : Oper} (hi : l[i]? = some oi) (hf : fl oi = false) {R2 : List Nat} :
    ∀ (R1 : List Nat) (a : Act) (w : World), (∀ r ∈ R1, ∀ p : Oper, l[(r : Nat)]? = some p → Apart l p oi ∧ fl p = true) → Tx P fl ro l S Q (R1 ++ i :: R2) a w →
      (Region.wanted oi (yielded l.toArray a.tmps) = true → Eff P ro oi a w fun v w' => S w' ∧ Tx P fl ro l S Q (R1 ++ R2) (a.put oi.dst v) w') ∧
      (Region.wanted oi (yielded l.toArray a.tmps) = false → Tx P fl ro l S Q (R1 ++ R2) (a.put oi.dst undef) w) := by
  intro R1
  induction R1 with
  | nil =>
    intro a w _ h
    simp only [List.nil_append] at h ⊢
    obtain ⟨o, ho, hw, hn⟩ := h
    rw [hi] at ho
    cases ho
    refine ⟨fun hwant => ?_, hn⟩
    rcases hw hwant with ⟨hff, _⟩ | ⟨_, he⟩
    · rw [hf] at hff; cases hff
    · exact he
  | cons r R1 ih =>
    intro a w hap h
    obtain ⟨p, hp, hw, hn⟩ := h
    obtain ⟨hapr, hfp⟩ := hap r List.mem_cons_self p hp
    have hap' : ∀ r ∈ R1, ∀ p : Oper, l[(r : Nat)]? = some p → Apart l p oi ∧ fl p = true := fun r hr => hap r (List.mem_cons_of_mem _ hr)
    have hsp := hns _ _ hp
    have hsi := hns _ _ hi
    cases hwant : Region.wanted p (yielded l.toArray a.tmps) with
    | false =>
      obtain ⟨h1, h2⟩ := ih _ w hap' (hn hwant)
      rw [want_put hapr] at h1 h2
      have back : ∀ v w', Tx P fl ro l S Q (R1 ++ R2) ((a.put p.dst undef).put oi.dst v) w' → Tx P fl ro l S Q (r :: (R1 ++ R2)) (a.put oi.dst v) w' := by
        intro v w' ht
        refine ⟨p, hp, fun hc => ?_, fun _ => ?_⟩
        · rw [want_put hapr.symm, hwant] at hc; cases hc
        · rw [put_put hapr.symm]; exact ht
      refine ⟨fun hwi => ?_, fun hwi => back _ _ (h2 hwi)⟩
      have he := h1 hwi
      unfold Eff at he ⊢
      rw [run_put hsi hapr] at he
      exact (show Eff P ro oi a w _ from he).mono fun v w' ⟨hS', ht⟩ => ⟨hS', back _ _ ht⟩
    | true =>
      rcases hw hwant with ⟨_, u, hu, ht0⟩ | ⟨hff, _⟩
      · obtain ⟨h1, h2⟩ := ih _ w hap' ht0
        rw [want_put hapr] at h1 h2
        have back : ∀ v w', Tx P fl ro l S Q (R1 ++ R2) ((a.put p.dst u).put oi.dst v) w' → Tx P fl ro l S Q (r :: (R1 ++ R2)) (a.put oi.dst v) w' := by
          intro v w' ht
          refine ⟨p, hp, fun _ => .inl ⟨hfp, u, ?_, ?_⟩, fun hc => ?_⟩
          · rw [run_put hsp hapr.symm]; exact hu
          · rw [put_put hapr.symm]; exact ht
          · rw [want_put hapr.symm, hwant] at hc; cases hc
        refine ⟨fun hwi => ?_, fun hwi => back _ _ (h2 hwi)⟩
        have he := h1 hwi
        unfold Eff at he ⊢
        rw [run_put hsi hapr] at he
        exact (show Eff P ro oi a w _ from he).mono fun v w' ⟨hS', ht⟩ => ⟨hS', back _ _ ht⟩
      · rw [hfp] at hff; cases hff

/-! ### Every order that the edges let -/
def Closed (l : List Oper) (listed : Array Bool) : Prop :=
  ∀ (i : Nat) (o : Oper), listed.getD i false = true → l[i]? = some o → ∀ e ∈ o.after.toList, Region.binds .any e = true → listed.getD e.on false = true

theorem ancT_sound {listed : Array Bool} (hcl : Closed l listed) : ∀ (os pre : List Oper) (acc : List (List Nat)), l = pre ++ os → acc.length = pre.length →
    (∀ (i : Nat) (o : Oper), i < acc.length → l[i]? = some o → (∀ e ∈ o.after.toList, Region.binds .any e = true → listed.getD e.on false = true) → ∀ j ∈ acc.getD i [], listed.getD j false = true) →
    ∀ (i : Nat) (o : Oper), l[i]? = some o → (∀ e ∈ o.after.toList, Region.binds .any e = true → listed.getD e.on false = true) → ∀ j ∈ (ancT os acc).getD i [], listed.getD j false = true := by
  intro os
  induction os with
  | nil =>
    intro pre acc hl hlen hacc i o hi he j hj
    have hlt : i < l.length := (List.getElem?_eq_some_iff.1 hi).1
    rw [List.append_nil] at hl
    exact hacc i o (by rw [hlen, ← hl]; exact hlt) hi he j hj
  | cons p os ih =>
    intro pre acc hl hlen hacc
    simp only [ancT]
    refine ih (pre ++ [p]) _ (by simpa using hl) (by simp [hlen]) ?_
    intro i o hi ho he j hj
    simp only [List.length_append, List.length_cons, List.length_nil] at hi
    by_cases hlt : i < acc.length
    · have : (acc ++ [((p.after.toList.filter (Region.binds .any ·)).flatMap fun e => e.on :: (acc.getD e.on [])).eraseDups]).getD i [] = acc.getD i [] := by
        simp [List.getD_eq_getElem?_getD, List.getElem?_append_left hlt]
      rw [this] at hj
      exact hacc i o hlt ho he j hj
    · have hie : i = acc.length := by omega
      subst hie
      have hop : o = p := by
        rw [hl, hlen, List.getElem?_append_right (Nat.le_refl _)] at ho
        simpa using ho.symm
      subst hop
      have : (acc ++ [((o.after.toList.filter (Region.binds .any ·)).flatMap fun e => e.on :: (acc.getD e.on [])).eraseDups]).getD acc.length [] = ((o.after.toList.filter (Region.binds .any ·)).flatMap fun e => e.on :: (acc.getD e.on [])).eraseDups := by
        simp [List.getD_eq_getElem?_getD]
      rw [this, List.mem_eraseDups, List.mem_flatMap] at hj
      obtain ⟨e, hmem, hje⟩ := hj
      rw [List.mem_filter] at hmem
      have hon := he e hmem.1 hmem.2
      rcases List.mem_cons.1 hje with rfl | hje
      · exact hon
      · by_cases hel : e.on < acc.length
        · have hlt' : e.on < l.length := by rw [hl]; simp; omega
          have hg : l[e.on]? = some l[e.on] := List.getElem?_eq_getElem hlt'
          exact hacc e.on _ hel hg (hcl e.on _ hon hg) j hje
        · simp [List.getD_eq_getElem?_getD, List.getElem?_eq_none (Nat.le_of_not_lt hel)] at hje

/-- The numbers that are left. -/
def left (l : List Oper) (listed : Array Bool) : List Nat := (List.range l.length).filter fun i => !listed.getD i true

theorem filter_split {p : Nat → Bool} {i : Nat} : ∀ {L : List Nat}, L.Nodup → i ∈ L → p i = true → L.Pairwise (· < ·) →
    ∃ R1 R2, L.filter p = R1 ++ i :: R2 ∧ (∀ r ∈ R1, r < i ∧ p r = true) ∧ L.filter (fun j => p j && j != i) = R1 ++ R2 := by
  intro L
  induction L with
  | nil => intro _ h; cases h
  | cons x L ih =>
    intro hnd hi hp hpw
    rw [List.nodup_cons] at hnd
    rw [List.pairwise_cons] at hpw
    by_cases hx : x = i
    · subst hx
      refine ⟨[], L.filter p, by simp [hp], by simp, ?_⟩
      have : L.filter (fun j => p j && j != x) = L.filter p := by
        apply List.filter_congr
        intro j hj
        have : j ≠ x := fun e => hnd.1 (e ▸ hj)
        simp [this]
      simp [this]
    · have hi' : i ∈ L := by
        rcases List.mem_cons.1 hi with h | h
        · exact absurd h.symm hx
        · exact h
      obtain ⟨R1, R2, h1, h2, h3⟩ := ih hnd.2 hi' hp hpw.2
      by_cases hpx : p x = true
      · refine ⟨x :: R1, R2, by simp [hpx, h1], ?_, by simp [hpx, hx, h3]⟩
        intro r hr
        rcases List.mem_cons.1 hr with rfl | hr
        · exact ⟨hpw.1 i hi', hpx⟩
        · exact h2 r hr
      · refine ⟨R1, R2, by simp [hpx, h1], h2, by simp [hpx, h3]⟩

theorem okDraw_ns (h : okDraw fl l = true) (i : Nat) (o : Oper) (ho : l[i]? = some o) : noSel o = true := by
  simp only [okDraw, Bool.and_eq_true] at h
  exact List.all_eq_true.1 h.1 o (List.mem_of_getElem? ho)
theorem okDraw_back (h : okDraw fl l = true) (i : Nat) (o : Oper) (ho : l[i]? = some o) (e : Edge) (he : e ∈ o.after.toList) (hb : Region.binds .any e = true) : e.on < i := by
  simp only [okDraw, Bool.and_eq_true] at h
  have hlt : i < l.length := (List.getElem?_eq_some_iff.1 ho).1
  have := List.all_eq_true.1 h.2 i (List.mem_range.2 hlt)
  simp only [ho, Bool.and_eq_true] at this
  have := List.all_eq_true.1 this.1 e he
  simp only [hb, Bool.not_true, Bool.false_or] at this
  exact Nat.le_of_ble_eq_true this
theorem okDraw_pair (h : okDraw fl l = true) (i j : Nat) (o p : Oper) (ho : l[i]? = some o) (hp : l[j]? = some p) (hji : j < i) :
    j ∈ (ancT l []).getD i [] ∨ (Apart l p o ∧ (fl o = true ∨ fl p = true)) := by
  simp only [okDraw, Bool.and_eq_true] at h
  have hlt : i < l.length := (List.getElem?_eq_some_iff.1 ho).1
  have := List.all_eq_true.1 h.2 i (List.mem_range.2 hlt)
  simp only [ho, Bool.and_eq_true] at this
  have := List.all_eq_true.1 this.2 j (List.mem_range.2 hji)
  simp only [hp, Bool.or_eq_true, Bool.and_eq_true] at this
  rcases this with h1 | ⟨⟨h1, h2⟩, h3⟩
  · exact .inl (List.contains_iff_mem.1 h1)
  · exact .inr ⟨⟨h1, h2⟩, h3⟩

theorem getD_both {listed : Array Bool} {i : Nat} (h : i < listed.size) : listed.getD i true = listed.getD i false := by
  simp [Array.getD_eq_getD_getElem?, h]

theorem any_of_Tx (hok : okDraw fl l = true) : ∀ (fuel : Nat) (listed : Array Bool) (a : Act) (w : World), listed.size = l.length → Closed l listed → (left l listed).length = fuel → S w →
    Tx P fl ro l S Q (left l listed) a w → wpAnyIn (FR ro) 0 P .any l.toArray Q fuel listed a w := by
  intro fuel
  induction fuel with
  | zero =>
    intro listed a w hsz hcl hlen hS h
    have hnil : left l listed = [] := List.eq_nil_of_length_eq_zero hlen
    rw [hnil] at h
    refine ⟨?_, h⟩
    rw [List.eq_nil_iff_forall_not_mem]
    intro i hi
    rw [mem_ready] at hi
    obtain ⟨h0, o, ho, _⟩ := hi
    have hlt : i < l.length := by simpa using (Array.getElem?_eq_some_iff.1 ho).1
    have : i ∈ left l listed := by unfold left; rw [List.mem_filter]; exact ⟨List.mem_range.2 hlt, by simp [h0]⟩
    rw [hnil] at this; cases this
  | succ fuel ih =>
    intro listed a w hsz hcl hlen hS h
    refine ⟨fun hr => ?_, ?_⟩
    · -- the first that is left is ready
      exfalso
      cases hl : left l listed with
      | nil => rw [hl] at hlen; simp at hlen
      | cons i R =>
        have himem : i ∈ left l listed := by rw [hl]; exact List.mem_cons_self
        have hi2 := List.mem_filter.1 himem
        have hlt := List.mem_range.1 hi2.1
        have hmin : ∀ j, j < i → listed.getD j false = true := by
          intro j hj
          cases hlj : listed.getD j false with
          | true => rfl
          | false =>
            exfalso
            have hjl : j < l.length := by omega
            have hjm : j ∈ left l listed := by
              unfold left; rw [List.mem_filter]
              exact ⟨List.mem_range.2 hjl, by rw [getD_both (by omega), hlj]; rfl⟩
            have hpw : (left l listed).Pairwise (· < ·) := List.Pairwise.filter _ List.pairwise_lt_range
            rw [hl] at hjm hpw
            rcases List.mem_cons.1 hjm with rfl | hjm
            · omega
            · have := (List.pairwise_cons.1 hpw).1 j hjm
              omega
        have hg : l[i]? = some l[i] := List.getElem?_eq_getElem hlt
        have : i ∈ Region.ready .any l.toArray listed := by
          rw [mem_ready]
          refine ⟨by simpa using hi2.2, l[i], by simp, fun e he hb => ?_⟩
          exact hmin _ (okDraw_back hok i _ hg e (by simpa using he) hb)
        rw [hr] at this; cases this
    · intro i hi
      rw [mem_ready] at hi
      obtain ⟨h0, o, ho, hdeps⟩ := hi
      have ho' : l[i]? = some o := by simpa using ho
      have hlt : i < l.length := (List.getElem?_eq_some_iff.1 ho').1
      obtain ⟨R1, R2, hs1, hs2, hs3⟩ := filter_split (p := fun j => !listed.getD j true) List.nodup_range (List.mem_range.2 hlt) (by simp [h0]) List.pairwise_lt_range
      have hleft' : left l (listed.setIfInBounds i true) = R1 ++ R2 := by
        rw [← hs3]
        unfold left
        apply List.filter_congr
        intro j _
        by_cases hij : i = j
        · subst hij
          have : i < listed.size := by omega
          simp [this]
        · rw [getD_set_ne true hij]
          simp [Ne.symm hij]
      have hleft : left l listed = R1 ++ i :: R2 := hs1
      have hcl' : Closed l (listed.setIfInBounds i true) := by
        intro k p hk hp e he hb
        by_cases hik : i = k
        · subst hik
          rw [ho'] at hp
          cases hp
          exact getD_set_true (hdeps e (by simpa using he) hb)
        · rw [getD_set_ne false hik] at hk
          exact getD_set_true (hcl k p hk hp e he hb)
      have hlen' : (left l (listed.setIfInBounds i true)).length = fuel := by
        rw [hleft']
        rw [hleft] at hlen
        simp at hlen ⊢
        omega
      have hsz' : (listed.setIfInBounds i true).size = l.length := by simpa using hsz
      have hanc : ∀ r ∈ R1, ∀ p : Oper, l[(r : Nat)]? = some p → Apart l p o ∧ (fl o = true ∨ fl p = true) := by
        intro r hr p hp
        obtain ⟨hri, hun⟩ := hs2 r hr
        rcases okDraw_pair hok i r o p ho' hp hri with hm | hm
        · exfalso
          have := ancT_sound hcl l [] [] rfl rfl (fun i o h => by simp at h) i o ho' (fun e he hb => hdeps e (by simpa using he) hb) r hm
          have hrl : r < l.length := (List.getElem?_eq_some_iff.1 hp).1
          rw [getD_both (by omega), this] at hun
          cases hun
        · exact hm
      rw [hleft] at h
      have next : ∀ (a' : Act) (w' : World), S w' → Tx P fl ro l S Q (R1 ++ R2) a' w' → wpAnyIn (FR ro) 0 P .any l.toArray Q fuel (listed.setIfInBounds i true) a' w' :=
        fun a' w' hS' ht => ih _ a' w' hsz' hcl' hlen' hS' (by rw [hleft']; exact ht)
      have hwp : ∀ (h1 : Region.wanted o (yielded l.toArray a.tmps) = true → Eff P ro o a w fun v w' => S w' ∧ Tx P fl ro l S Q (R1 ++ R2) (a.put o.dst v) w')
          (h2 : Region.wanted o (yielded l.toArray a.tmps) = false → Tx P fl ro l S Q (R1 ++ R2) (a.put o.dst undef) w),
          wpOpIn (FR ro) 0 P l.toArray Q i (wpAnyIn (FR ro) 0 P .any l.toArray Q fuel (listed.setIfInBounds i true)) a w := by
        intro h1 h2
        unfold wpOpIn
        rw [ho]
        dsimp only
        cases hw : Region.wanted o (yielded l.toArray a.tmps) with
        | true =>
          rw [if_pos rfl]
          exact Eff.wpIn (noSel_defer (okDraw_ns hok i o ho')) ((h1 hw).mono fun v w' ⟨hS', ht⟩ => next _ _ hS' ht)
        | false =>
          rw [if_neg (by simp)]
          exact ⟨fun f _ => FR_fn ro f, next _ _ hS (h2 hw)⟩
      cases hf : fl o with
      | true =>
        obtain ⟨v, hv, ht⟩ := Tx.first (okDraw_ns hok) ho' hf R1 a w (fun r hr p hp => (hanc r hr p hp).1) hS h
        refine hwp (fun hw => ?_) (fun hw => ?_)
        · unfold Eff
          rw [hv.1 hw w hS]
          exact ⟨hS, ht⟩
        · rw [hv.2 hw] at ht; exact ht
      | false =>
        obtain ⟨h1, h2⟩ := Tx.over (okDraw_ns hok) ho' hf R1 a w (fun r hr p hp => ⟨(hanc r hr p hp).1, ((hanc r hr p hp).2).resolve_left (by simp [hf])⟩) h
        exact hwp h1 h2

theorem region_drawn (hok : okDraw fl l = true) (hm : P.follows .mixedOrders = true) {id : Nat} {a : Act} {w : World} (hS : S w.drew)
    (h : Tx P fl ro l S Q (List.range l.length) a w.drew) : (Code.region id l.toArray true).wpIn (FR ro) 0 P Q a w := by
  have hleft : left l (Array.replicate l.length false) = List.range l.length := by
    unfold left
    rw [List.filter_eq_self]
    intro i hi
    have := List.mem_range.1 hi
    simp [this]
  refine wpIn_region_any hm ?_
  have := any_of_Tx (P := P) (ro := ro) (Q := Q) hok l.length (Array.replicate l.length false) a w.drew (by simp)
    (by intro i o hi; simp [Array.getElem?_replicate] at hi; split at hi <;> simp at hi) (by rw [hleft]; simp) hS (by rw [hleft]; exact h)
  simpa using this

/-! ### The walk on partial knowledge -/
class Mixed (P : Program) : Prop where
  on : P.follows .mixedOrders = true

variable {N : Nat} {rest : List Oper} {E : List (Nat × Value)} {ds : List Deferred} {w w' : World} {k d : Nat} {op : Op} {ty : TypeId} {pos : String} {aft : Array Edge} {g : Option (Nat × Bool)} {v : Value}

def DW (P : Program) (fl : Oper → Bool) (ro : Option Nat) (N : Nat) (S : World → Prop) (l : List Oper) (k : Nat) (rest : List Oper) (Q : Exit → Act → World → Prop) (E : List (Nat × Value)) (ds : List Deferred) (w : World) : Prop :=
  ∀ a, Kn N E a → a.defers = ds → S w → (∀ j : Nat, j < rest.length → rest[j]? = l[k + j]?) → Tx P fl ro l S Q (List.range' k rest.length) a w

theorem cw_draw (fl : Oper → Bool) (S : World → Prop) [hm : Mixed P] {id : Nat} (hok : okDraw fl l = true) (hS : S w.drew) (h : DW P fl ro N S l 0 l Q E ds w.drew) : CW P ro N (.region id l.toArray true) Q E ds w :=
  fun a hk hd => region_drawn hok hm.on hS (by
    have := h a hk hd hS (by intro j _; simp)
    rwa [← List.range_eq_range'] at this)

theorem dw_nil (h : PN N Q .normal E ds w) : DW P fl ro N S l k [] Q E ds w := fun a hk hd _ _ => h a hk hd

theorem put_defers' (a : Act) (x : Option Tmp) (u : Value) : (a.put x u).defers = a.defers := by cases x <;> rfl

theorem dw_tail {o : Oper} (hl : ∀ j : Nat, j < (o :: rest).length → (o :: rest)[j]? = l[k + j]?) : l[k]? = some o ∧ ∀ j : Nat, j < rest.length → rest[j]? = l[(k + 1) + j]? := by
  refine ⟨by simpa using (hl 0 (by simp)).symm, fun j hj => ?_⟩
  have := hl (j + 1) (by simp; omega)
  simp only [List.getElem?_cons_succ] at this
  rw [this]
  congr 1
  omega

theorem dw_skip (hg : wants l E g = some false) (hd : Nat.blt d N = true) (h : DW P fl ro N S l (k + 1) rest Q ((d, undef) :: E) ds w) :
    DW P fl ro N S l k (⟨some d, op, ty, pos, aft, g⟩ :: rest) Q E ds w := by
  intro a hk hds hS hl
  obtain ⟨ho, hl'⟩ := dw_tail hl
  have hw := wanted_of (o := ⟨some d, op, ty, pos, aft, g⟩) hk hg
  rw [List.length_cons, List.range'_succ]
  refine ⟨_, ho, fun hc => ?_, fun _ => h _ (hk.put hd) (by rw [put_defers']; exact hds) hS hl'⟩
  rw [hw] at hc; cases hc

/-- An operation that yields its value in every world of S. -/
theorem dw_rd (hg : wants l E g = some true) (hf : fl ⟨some d, op, ty, pos, aft, g⟩ = true) (hx : ∀ W, S W → Ex P E op ty W v W) (hd : Nat.blt d N = true)
    (h : DW P fl ro N S l (k + 1) rest Q ((d, v) :: E) ds w) : DW P fl ro N S l k (⟨some d, op, ty, pos, aft, g⟩ :: rest) Q E ds w := by
  intro a hk hds hS hl
  obtain ⟨ho, hl'⟩ := dw_tail hl
  have hw := wanted_of (o := ⟨some d, op, ty, pos, aft, g⟩) hk hg
  rw [List.length_cons, List.range'_succ]
  refine ⟨_, ho, fun _ => .inl ⟨hf, v, fun W hW => hx W hW a.eval _ hk.hyp rfl rfl, h _ (hk.put hd) (by rw [put_defers']; exact hds) hS hl'⟩, fun hc => ?_⟩
  rw [hw] at hc; cases hc

/-- An operation with an effect that runs to a value. -/
theorem dw_ex (hg : wants l E g = some true) (hf : fl ⟨some d, op, ty, pos, aft, g⟩ = false) (hx : Ex P E op ty w v w') (hS' : S w') (hd : Nat.blt d N = true)
    (h : DW P fl ro N S l (k + 1) rest Q ((d, v) :: E) ds w') : DW P fl ro N S l k (⟨some d, op, ty, pos, aft, g⟩ :: rest) Q E ds w := by
  intro a hk hds hS hl
  obtain ⟨ho, hl'⟩ := dw_tail hl
  have hw := wanted_of (o := ⟨some d, op, ty, pos, aft, g⟩) hk hg
  rw [List.length_cons, List.range'_succ]
  refine ⟨_, ho, fun _ => .inr ⟨hf, ?_⟩, fun hc => ?_⟩
  · unfold Eff
    rw [hx a.eval ⟨some d, op, ty, pos, aft, g⟩ hk.hyp rfl rfl]
    exact ⟨hS', h _ (hk.put hd) (by rw [put_defers']; exact hds) hS' hl'⟩
  · rw [hw] at hc; cases hc

theorem dw_eu (hg : wants l E g = some true) (hf : fl ⟨none, op, ty, pos, aft, g⟩ = false) (hx : Eu P E op ty w w') (hS' : S w')
    (h : DW P fl ro N S l (k + 1) rest Q E ds w') : DW P fl ro N S l k (⟨none, op, ty, pos, aft, g⟩ :: rest) Q E ds w := by
  intro a hk hds hS hl
  obtain ⟨ho, hl'⟩ := dw_tail hl
  have hw := wanted_of (o := ⟨none, op, ty, pos, aft, g⟩) hk hg
  rw [List.length_cons, List.range'_succ]
  refine ⟨_, ho, fun _ => .inr ⟨hf, ?_⟩, fun hc => ?_⟩
  · unfold Eff
    rw [hx a.eval ⟨none, op, ty, pos, aft, g⟩ hk.hyp rfl rfl]
    exact ⟨hS', h _ hk.putNone hds hS' hl'⟩
  · rw [hw] at hc; cases hc

theorem dw_call {f : FuncId} {args : Array Value} (hg : wants l E g = some true) (hf : fl ⟨some d, op, ty, pos, aft, g⟩ = false) (hx : Ec P E op ty w f args) (hd : Nat.blt d N = true)
    (h : Calls P f args w fun e w' => ∃ v, e = .returned v ∧ S w' ∧ DW P fl ro N S l (k + 1) rest Q ((d, v) :: E) ds w') :
    DW P fl ro N S l k (⟨some d, op, ty, pos, aft, g⟩ :: rest) Q E ds w := by
  intro a hk hds hS hl
  obtain ⟨ho, hl'⟩ := dw_tail hl
  have hw := wanted_of (o := ⟨some d, op, ty, pos, aft, g⟩) hk hg
  rw [List.length_cons, List.range'_succ]
  refine ⟨_, ho, fun _ => .inr ⟨hf, ?_⟩, fun hc => ?_⟩
  · unfold Eff
    rw [hx a.eval ⟨some d, op, ty, pos, aft, g⟩ hk.hyp rfl rfl]
    exact h.mono fun e w' ⟨v, he, hS', h'⟩ => ⟨v, he, hS', h' _ (hk.put hd) (by rw [put_defers']; exact hds) hS' hl'⟩
  · rw [hw] at hc; cases hc

theorem d_p {tt : Nat → Option TI} [TT P tt] (hg : wants l E g = some true) (hx : pev tt E op = some v) (hf : fl ⟨some d, op, ty, pos, aft, g⟩ = true) (hd : Nat.blt d N = true)
    (h : DW P fl ro N S l (k + 1) rest Q ((d, v) :: E) ds w) : DW P fl ro N S l k (⟨some d, op, ty, pos, aft, g⟩ :: rest) Q E ds w :=
  dw_rd hg hf (fun W _ => pev_sound hx W) hd h
theorem d_c {tt : Nat → Option TI} [TT P tt] {c : Prop} (hg : wants l E g = some true) (hx : pevc tt E op = some (c, v)) (hf : fl ⟨some d, op, ty, pos, aft, g⟩ = true) (hd : Nat.blt d N = true) (hc : c)
    (h : DW P fl ro N S l (k + 1) rest Q ((d, v) :: E) ds w) : DW P fl ro N S l k (⟨some d, op, ty, pos, aft, g⟩ :: rest) Q E ds w :=
  dw_rd hg hf (fun W _ => pevc_sound hx hc W) hd h
theorem d_ix {tt : Nat → Option TI} [TT P tt] (i' : Nat) {b o n s : Nat} {i : Int} (hg : wants l E g = some true) (hx : ixv tt E op = some (b, o, n, i, s)) (hf : fl ⟨some d, op, ty, pos, aft, g⟩ = true) (hd : Nat.blt d N = true) (hi : i = (i' : Int)) (hk : i' < n)
    (h : DW P fl ro N S l (k + 1) rest Q ((d, .pointer (some ⟨b, o + mulz i' s, none⟩)) :: E) ds w) : DW P fl ro N S l k (⟨some d, op, ty, pos, aft, g⟩ :: rest) Q E ds w :=
  dw_rd hg hf (fun W _ => ixv_sound hx hi hk W) hd h
theorem d_know (i : Nat) {u : Value} (v : Value) (hl : look E i = some u) (he : u = v) (h : DW P fl ro N S l k rest Q ((i, v) :: E) ds w) : DW P fl ro N S l k rest Q E ds w := fun a hk hd => h a (hk.know hl he) hd
theorem d_split (i : Nat) {b : Bool} (hl : look E i = some (.bool b)) (ht : b = true → DW P fl ro N S l k rest Q ((i, .bool true) :: E) ds w) (hf : b = false → DW P fl ro N S l k rest Q ((i, .bool false) :: E) ds w) :
    DW P fl ro N S l k rest Q E ds w := by
  cases b with
  | true => exact d_know i _ hl rfl (ht rfl)
  | false => exact d_know i _ hl rfl (hf rfl)
theorem d_if (i : Nat) {p : Prop} [Decidable p] (hl : look E i = some (.bool (decide p))) (ht : p → DW P fl ro N S l k rest Q ((i, .bool true) :: E) ds w) (hf : ¬ p → DW P fl ro N S l k rest Q ((i, .bool false) :: E) ds w) :
    DW P fl ro N S l k rest Q E ds w := d_split i hl (fun h => ht (of_decide_eq_true h)) (fun h => hf (of_decide_eq_false h))
end

end Go.Eng
