/- The engine, part fourteen: memory told piece by piece: a list of pieces, each in blocks of its own; what is not told may be anything. Conditions: none. -/
import Derived.Test.YtgebobjihojljaaEngN
namespace Go.Eng
open Go Go.RowKit

abbrev PH := Nat → Option Obj
abbrev SP := PH → Prop
def le (h k : PH) : Prop := ∀ i o, h i = some o → k i = some o
def apt (h k : PH) : Prop := ∀ i, h i = none ∨ k i = none
def ph (w : World) : PH := fun i => w.heap[i]?
theorem le.refl (h : PH) : le h h := fun _ _ e => e
theorem le.trans {h k l : PH} (a : le h k) (b : le k l) : le h l := fun i o e => b i o (a i o e)
theorem apt.symm {h k : PH} (a : apt h k) : apt k h := fun i => (a i).symm
theorem ph_lt {w : World} {i : Nat} {o : Obj} (h : ph w i = some o) : i < w.heap.size := (Array.getElem?_eq_some_iff.1 h).1

/-- The pieces lie apart from one another in h. -/
def SatH (F : List SP) (h : PH) : Prop := ∃ H : Nat → PH, (∀ i, le (H i) h) ∧ (∀ i j, i ≠ j → apt (H i) (H j)) ∧ ∀ i A, nth F i = some A → A (H i)

theorem SatH.mono {F : List SP} {h k : PH} (s : SatH F h) (l : le h k) : SatH F k := by
  obtain ⟨H, a, b, c⟩ := s
  exact ⟨H, fun i => (a i).trans l, b, c⟩
theorem SatH.get {F : List SP} {h : PH} {k : Nat} {A : SP} (s : SatH F h) (hk : nth F k = some A) : ∃ h1, le h1 h ∧ A h1 := by
  obtain ⟨H, a, b, c⟩ := s
  exact ⟨H k, a k, c k A hk⟩
theorem SatH.nil (h : PH) : SatH [] h := ⟨fun _ _ => none, fun _ _ _ e => (by cases e), fun _ _ _ _ => .inl rfl, fun i A e => (by simp [nth] at e)⟩

/-- Memory, and what is told of it; what lies outside memory is as in b. -/
structure Sat (b : World) (F : List SP) (w : World) : Prop where
  os : w.os = b.os
  tape : w.tape = b.tape
  output : w.output = b.output
  mem : SatH F (ph w)

/-! ## What follows from what -/
def Ent (F G : List SP) : Prop := ∀ h, SatH F h → SatH G h
theorem Ent.refl (F : List SP) : Ent F F := fun _ h => h
theorem Ent.trans {F G K : List SP} (a : Ent F G) (b : Ent G K) : Ent F K := fun h s => b h (a h s)
theorem Sat.ent {b : World} {F G : List SP} {w : World} (h : Sat b F w) (e : Ent F G) : Sat b G w := ⟨h.os, h.tape, h.output, e _ h.mem⟩

def dropN : Nat → List SP → List SP
  | 0, F => F
  | n + 1, F => match F with
    | [] => []
    | _ :: F => dropN n F
theorem nth_dropN (n : Nat) (F : List SP) (j : Nat) : nth (dropN n F) j = nth F (n + j) := by
  induction n generalizing F with
  | zero => simp [dropN]
  | succ n ih =>
    cases F with
    | nil => simp [dropN, nth]
    | cons A F => rw [Nat.succ_add]; simp only [dropN, nth]; exact ih F
def dropO : Nat → List SP → Option (List SP)
  | 0, F => some F
  | n + 1, F => match F with
    | [] => some []
    | _ :: F => dropO n F
theorem dropO_eq (n : Nat) (F : List SP) : dropO n F = some (dropN n F) := by
  induction n generalizing F with
  | zero => rfl
  | succ n ih => cases F with
    | nil => rfl
    | cons A F => exact ih F
/-- The pieces ks, and those behind the first n. -/
def keepO (n : Nat) : List Nat → List SP → Option (List SP)
  | [], F => dropO n F
  | k :: ks, F => match nth F k, keepO n ks F with
    | some A, some G => some (A :: G)
    | _, _ => none
def okKs (n : Nat) : List Nat → Bool
  | [] => true
  | k :: ks => Nat.blt k n && (ks.all fun j => !Nat.beq j k) && okKs n ks
def sig (n : Nat) : List Nat → Nat → Nat
  | [], j => n + j
  | k :: _, 0 => k
  | _ :: ks, j + 1 => sig n ks j
theorem sig_nth {n : Nat} {ks : List Nat} {F G : List SP} (h : keepO n ks F = some G) (j : Nat) : nth G j = nth F (sig n ks j) := by
  induction ks generalizing G j with
  | nil => simp only [keepO, dropO_eq, Option.some.injEq] at h; subst h; exact nth_dropN n F j
  | cons k ks ih =>
    simp only [keepO] at h
    split at h
    · rename_i A G' h1 h2
      simp only [Option.some.injEq] at h
      subst h
      cases j with
      | zero => simp only [nth, sig]; exact h1.symm
      | succ j => simp only [nth, sig]; exact ih h2 j
    · cases h
theorem okKs_lt {n : Nat} {ks : List Nat} (h : okKs n ks = true) (k : Nat) (hk : k ∈ ks) : k < n := by
  induction ks with
  | nil => simp at hk
  | cons a ks ih =>
    simp only [okKs, Bool.and_eq_true] at h
    rcases List.mem_cons.1 hk with rfl | hk
    · exact Nat.le_of_ble_eq_true h.1.1
    · exact ih h.2 hk
theorem sig_mem {n : Nat} {ks : List Nat} (j : Nat) : sig n ks j ∈ ks ∨ (n ≤ sig n ks j ∧ ∃ i, j = ks.length + i ∧ sig n ks j = n + i) := by
  induction ks generalizing j with
  | nil => right; exact ⟨by simp [sig], j, by simp, rfl⟩
  | cons a ks ih =>
    cases j with
    | zero => left; simp [sig]
    | succ j =>
      simp only [sig]
      rcases ih j with h | ⟨h, i, h1, h2⟩
      · left; exact List.mem_cons_of_mem _ h
      · right; exact ⟨h, i, by simp; omega, h2⟩
theorem sig_inj {n : Nat} {ks : List Nat} (h : okKs n ks = true) : ∀ i j, sig n ks i = sig n ks j → i = j := by
  induction ks with
  | nil => intro i j e; simp [sig] at e; exact e
  | cons a ks ih =>
    have hlt := okKs_lt h a List.mem_cons_self
    simp only [okKs, Bool.and_eq_true] at h
    have key : ∀ j, sig n ks j ≠ a := by
      intro j e
      rcases sig_mem (n := n) (ks := ks) j with hm | ⟨hm, _⟩
      · rw [e] at hm
        have := List.all_eq_true.1 h.1.2 a hm
        simp at this
      · omega
    intro i j e
    cases i with
    | zero => cases j with
      | zero => rfl
      | succ j => simp only [sig] at e; exact absurd e.symm (key j)
    | succ i => cases j with
      | zero => simp only [sig] at e; exact absurd e (key i)
      | succ j => simp only [sig] at e; rw [ih h.2 i j e]
theorem ent_keep (n : Nat) (ks : List Nat) {F G : List SP} (hk : okKs n ks = true) (h : keepO n ks F = some G) : Ent F G := by
  rintro m ⟨H, a, b, c⟩
  refine ⟨fun j => H (sig n ks j), fun i => a _, fun i j hij => b _ _ (fun e => hij (sig_inj hk i j e)), fun i A hA => c _ A ?_⟩
  rw [← sig_nth h]; exact hA

def setF : List SP → Nat → SP → Option (List SP)
  | [], _, _ => none
  | _ :: F, 0, B => some (B :: F)
  | A :: F, k + 1, B => match setF F k B with
    | some G => some (A :: G)
    | none => none
theorem setF_nth {F G : List SP} {k : Nat} {B : SP} (h : setF F k B = some G) (j : Nat) : nth G j = if j = k then some B else nth F j := by
  induction F generalizing G k j with
  | nil => simp [setF] at h
  | cons A F ih =>
    cases k with
    | zero => simp only [setF, Option.some.injEq] at h; subst h; cases j <;> simp [nth]
    | succ k =>
      simp only [setF] at h
      split at h
      · rename_i G' h1
        simp only [Option.some.injEq] at h
        subst h
        cases j with
        | zero => simp [nth]
        | succ j => simp only [nth]; rw [ih h1 j]; simp
      · cases h
/-- One piece told otherwise. -/
theorem ent_set (k : Nat) {F G : List SP} {A B : SP} (hA : nth F k = some A) (hB : ∀ h, A h → B h) (hG : setF F k B = some G) : Ent F G := by
  rintro m ⟨H, a, b, c⟩
  refine ⟨H, a, b, fun i C hC => ?_⟩
  rw [setF_nth hG] at hC
  split at hC
  · rename_i e; subst e; cases hC; exact hB _ (c _ _ hA)
  · exact c _ _ hC

/-- Several pieces as one. -/
def all (G : List SP) : SP := SatH G
theorem nth_append {α : Type} (F G : List α) (j : Nat) : nth (F ++ G) j = if j < F.length then nth F j else nth G (j - F.length) := by
  rw [nth_eq, nth_eq, nth_eq, List.getElem?_append]
theorem ent_open {G F : List SP} : Ent (all G :: F) (G ++ F) := by
  rintro m ⟨H, a, b, c⟩
  obtain ⟨K, a', b', c'⟩ := c 0 (all G) rfl
  refine ⟨fun j => if j < G.length then K j else H (j - G.length + 1), fun i => ?_, fun i j hij => ?_, fun i A hA => ?_⟩
  · dsimp only; split
    · exact (a' i).trans (a 0)
    · exact a _
  · dsimp only
    have hK : ∀ i j, apt (K i) (H (j + 1)) := fun i j x => by
      rcases b 0 (j + 1) (by omega) x with h | h
      · left
        cases hx : K i x with
        | none => rfl
        | some o => rw [a' i x o hx] at h; cases h
      · exact .inr h
    split <;> split
    · exact b' i j hij
    · exact hK i _
    · exact (hK j _).symm
    · exact b _ _ (by omega)
  · rw [nth_append] at hA
    dsimp only; split at hA
    · rename_i h; rw [if_pos h]; exact c' i A hA
    · rename_i h; rw [if_neg h]; exact c _ A (by simpa [nth] using hA)
open Classical in
theorem ent_close {G F : List SP} : Ent (G ++ F) (all G :: F) := by
  rintro m ⟨H, a, b, c⟩
  let U : PH := fun i => if e : ∃ j, j < G.length ∧ H j i ≠ none then H e.choose i else none
  have hU : ∀ j, j < G.length → le (H j) U := by
    intro j hj i o ho
    have e : ∃ j, j < G.length ∧ H j i ≠ none := ⟨j, hj, by rw [ho]; simp⟩
    have : U i = H e.choose i := dif_pos e
    rw [this]
    have hs := e.choose_spec
    by_cases hjj : e.choose = j
    · rw [hjj]; exact ho
    · rcases b _ _ hjj i with h | h
      · exact absurd h hs.2
      · rw [ho] at h; cases h
  have hUm : le U m := by
    intro i o ho
    by_cases e : ∃ j, j < G.length ∧ H j i ≠ none
    · have : U i = H e.choose i := dif_pos e
      rw [this] at ho; exact a _ i o ho
    · have : U i = none := dif_neg e
      rw [this] at ho; cases ho
  have hUa : ∀ k, G.length ≤ k → apt U (H k) := by
    intro k hk i
    by_cases e : ∃ j, j < G.length ∧ H j i ≠ none
    · right
      have hs := e.choose_spec
      rcases b e.choose k (by omega) i with h | h
      · exact absurd h hs.2
      · exact h
    · exact .inl (dif_neg e)
  refine ⟨fun j => match j with | 0 => U | j + 1 => H (j + G.length), fun i => ?_, fun i j hij => ?_, fun i A hA => ?_⟩
  · cases i with
    | zero => exact hUm
    | succ i => exact a _
  · cases i with
    | zero => cases j with
      | zero => exact absurd rfl hij
      | succ j => exact hUa _ (by omega)
    | succ i => cases j with
      | zero => exact (hUa _ (by omega)).symm
      | succ j => exact b _ _ (by omega)
  · cases i with
    | zero =>
      simp only [nth, Option.some.injEq] at hA
      subst hA
      refine ⟨fun j => if j < G.length then H j else fun _ => none, fun i => ?_, fun i j hij => ?_, fun i A hA => ?_⟩
      · dsimp only; split
        · exact hU _ (by assumption)
        · intro _ _ e; cases e
      · dsimp only; split
        · split
          · exact b _ _ hij
          · exact fun _ => .inr rfl
        · exact fun _ => .inl rfl
      · have hi : i < G.length := by
          rw [nth_eq] at hA; exact (List.getElem?_eq_some_iff.1 hA).1
        dsimp only; rw [if_pos hi]
        exact c i A (by rw [nth_append, if_pos hi]; exact hA)
    | succ i =>
      simp only [nth] at hA
      exact c _ A (by rw [nth_append, if_neg (by omega)]; simpa using hA)

/-! ## From world to world -/
section
variable {b w w' : World} {F G : List SP}
theorem Sat.ext (h : Sat b F w) (e : Ext w w') : Sat b F w' :=
  ⟨e.os.trans h.os, e.tape.trans h.tape, e.output.trans h.output, h.mem.mono fun i o hi => by
    have := e.keep i (ph_lt hi) id
    exact this.trans hi⟩
/-- A piece in new blocks. -/
theorem Sat.new (h : Sat b F w) (e : Ext w w') {A : SP} {hn : PH} (h1 : le hn (ph w')) (h2 : ∀ i, hn i ≠ none → w.heap.size ≤ i) (hA : A hn) : Sat b (A :: F) w' := by
  have h' := h.ext e
  refine ⟨h'.os, h'.tape, h'.output, ?_⟩
  obtain ⟨H, a, b', c⟩ := h.mem
  have hap : ∀ i, apt hn (H i) := fun i x => by
    by_cases hx : hn x = none
    · exact .inl hx
    · right
      have := h2 x hx
      cases hH : H i x with
      | none => rfl
      | some o => have := ph_lt (a i x o hH); omega
  refine ⟨fun j => match j with | 0 => hn | j + 1 => H j, fun i => ?_, fun i j hij => ?_, fun i A' hA' => ?_⟩
  · cases i with
    | zero => exact h1
    | succ i => exact (a i).trans fun x o hx => (e.keep x (ph_lt hx) id).trans hx
  · cases i with
    | zero => cases j with
      | zero => exact absurd rfl hij
      | succ j => exact hap j
    | succ i => cases j with
      | zero => exact (hap i).symm
      | succ j => exact b' i j (by omega)
  · cases i with
    | zero => simp only [nth, Option.some.injEq] at hA'; subst hA'; exact hA
    | succ i => exact c i A' hA'
/-- One piece turns, and maybe grows into new blocks. -/
theorem Sat.upd (h : Sat b F w) (k : Nat) {A B : SP} {D : Nat → Prop} (hk : nth F k = some A) (e : Fr D w w')
    (hu : ∀ h1, le h1 (ph w) → A h1 → (∀ i, i < w.heap.size → D i → h1 i ≠ none) ∧ ∃ h2, le h2 (ph w') ∧ B h2 ∧ ∀ i, h2 i ≠ none → h1 i ≠ none ∨ w.heap.size ≤ i)
    (hG : setF F k B = some G) : Sat b G w' := by
  refine ⟨e.os.trans h.os, e.tape.trans h.tape, e.output.trans h.output, ?_⟩
  obtain ⟨H, a, b', c⟩ := h.mem
  obtain ⟨hD, h2, l2, hB, hn⟩ := hu (H k) (a k) (c k A hk)
  have hap : ∀ j, j ≠ k → apt h2 (H j) := fun j hj x => by
    by_cases hx : h2 x = none
    · exact .inl hx
    · right
      rcases hn x hx with h1 | h1
      · rcases b' j k hj x with h3 | h3
        · exact h3
        · exact absurd h3 h1
      · cases hH : H j x with
        | none => rfl
        | some o => have := ph_lt (a j x o hH); omega
  refine ⟨fun j => if j = k then h2 else H j, fun i => ?_, fun i j hij => ?_, fun i A' hA' => ?_⟩
  · dsimp only; split
    · exact l2
    · rename_i hne
      intro x o hx
      have hx' := a i x o hx
      refine (e.keep x (ph_lt hx') fun hd => ?_).trans hx'
      rcases b' i k hne x with h3 | h3
      · rw [hx] at h3; cases h3
      · exact hD x (ph_lt hx') hd h3
  · dsimp only; split
    · rename_i e1; subst e1; rw [if_neg (Ne.symm hij)]; exact hap j (Ne.symm hij)
    · split
      · rename_i e1; subst e1; exact (hap i hij).symm
      · exact b' i j hij
  · rw [setF_nth hG] at hA'
    dsimp only; split at hA'
    · rename_i e1; rw [if_pos e1]; cases hA'; exact hB
    · rename_i e1; rw [if_neg e1]; exact c i A' hA'

/-! ## A block known whole -/
def pt (g t : Nat) (cs : List Value) : SP := fun h => h g = some (.cells cs.toArray t (0, 0))
variable {k g t : Nat} {cs cs' : List Value}
theorem Sat.blk (h : Sat b F w) (hk : nth F k = some (pt g t cs)) : Blk w g t cs := by
  obtain ⟨h1, l, hA⟩ := h.mem.get hk
  exact l _ _ hA
def one (g : Nat) (o : Obj) : PH := fun i => if i = g then some o else none
theorem one_le {h : PH} {g : Nat} {o : Obj} (e : h g = some o) : le (one g o) h := by
  intro i u hi; simp only [one] at hi; split at hi
  · rename_i e1; subst e1; cases hi; exact e
  · cases hi
theorem one_ne {g i : Nat} {o : Obj} (h : one g o i ≠ none) : i = g := by
  simp only [one] at h; split at h
  · assumption
  · exact absurd rfl h
theorem one_at (g : Nat) (o : Obj) : one g o g = some o := by simp [one]
theorem Sat.alloc (h : Sat b F w) (e : Ext w w') (hb : Blk w' g t cs) (hg : w.heap.size ≤ g) : Sat b (pt g t cs :: F) w' :=
  h.new e (one_le (h := ph w') hb) (fun i hi => by rw [one_ne hi]; exact hg) (one_at g _)
theorem Sat.write (h : Sat b F w) (hk : nth F k = some (pt g t cs)) (e : Fr (· = g) w w') (hb : Blk w' g t cs') (hG : setF F k (pt g t cs') = some G) : Sat b G w' :=
  h.upd k hk e (fun h1 _ hA => ⟨fun i _ hi => by subst hi; rw [show h1 i = _ from hA]; simp, _, one_le (h := ph w') hb, one_at g _, fun i hi => .inl (by rw [one_ne hi, show h1 g = _ from hA]; simp)⟩) hG
theorem Sat.ne (h : Sat b F w) {i j g' t' : Nat} {ds : List Value} (hi : nth F i = some (pt g t cs)) (hj : nth F j = some (pt g' t' ds)) (hij : i ≠ j) : g ≠ g' := by
  rintro rfl
  obtain ⟨H, a, b', c⟩ := h.mem
  rcases b' i j hij g with h1 | h1
  · rw [show H i g = _ from c i _ hi] at h1; cases h1
  · rw [show H j g = _ from c j _ hj] at h1; cases h1

/-! ## What lay there at first -/
def Is (b : World) : SP := fun h => ∀ i o, ph b i = some o → h i = some o
theorem Sat.start (w : World) : Sat w [Is w] w := by
  refine ⟨rfl, rfl, rfl, fun j => match j with | 0 => ph w | _ + 1 => fun _ => none, fun i => ?_, fun i j hij => ?_, fun i A hA => ?_⟩
  · cases i with
    | zero => exact le.refl _
    | succ i => exact fun _ _ e => by cases e
  · cases i with
    | zero => cases j with
      | zero => exact absurd rfl hij
      | succ j => exact fun _ => .inr rfl
    | succ i => exact fun _ => .inl rfl
  · cases i with
    | zero => simp only [nth, Option.some.injEq] at hA; subst hA; exact fun _ _ e => e
    | succ i => simp [nth] at hA
theorem Sat.is (h : Sat b F w) (hk : nth F k = some (Is b)) : Ext b w := by
  obtain ⟨h1, l, hA⟩ := h.mem.get hk
  have hkeep : ∀ i, i < b.heap.size → w.heap[i]? = b.heap[i]? := fun i hi => by
    have : ph b i = some b.heap[i] := Array.getElem?_eq_getElem hi
    exact (l _ _ (hA i _ this)).trans this.symm
  refine ⟨h.os, h.tape, h.output, ?_, fun i hi _ => hkeep i hi⟩
  rcases Nat.lt_or_ge w.heap.size b.heap.size with hlt | hge
  · have := hkeep w.heap.size hlt
    rw [Array.getElem?_eq_none (Nat.le_refl _), Array.getElem?_eq_getElem hlt] at this
    cases this
  · exact hge

/-! ## Rows of the call's own -/
def row (e sz : Nat) (v : Value) (n : Nat) (cs : List Value) : SP := fun h =>
  cs.length = n * sz ∧ ((v = .slice none 0 0 ∧ n = 0) ∨
    ∃ g off cap cur, v = .slice (some ⟨g, off, none⟩) n cap ∧ h g = some (.cells cur e (0, 0)) ∧ n ≤ cap ∧ cap ≤ maxLen ∧ off + cap * sz ≤ cur.size ∧ (cur.toList.drop off).take (n * sz) = cs)
variable {e sz n : Nat} {v : Value}
theorem row_oat {h : PH} (hl : le h (ph w)) (hA : row e sz v n cs h) : Oat w 0 e sz v n cs := by
  refine ⟨hA.1, hA.2.imp id ?_⟩
  rintro ⟨g, off, cap, cur, h1, h2, h3⟩
  exact ⟨g, off, cap, cur, h1, Nat.zero_le _, hl _ _ h2, h3⟩
theorem Sat.oat (h : Sat b F w) (hk : nth F k = some (row e sz v n cs)) : Oat w 0 e sz v n cs := by
  obtain ⟨h1, l, hA⟩ := h.mem.get hk
  exact row_oat l hA
theorem Sat.sl (h : Sat b F w) (hk : nth F k = some (row e sz v n cs)) : SL w sz v n cs := (h.oat hk).sl
theorem oat_row {base : Nat} (h : Oat w base e sz v n cs) : ∃ h1, le h1 (ph w) ∧ row e sz v n cs h1 ∧ ∀ i, h1 i ≠ none → base ≤ i ∧ v.ownBlock = some i := by
  rcases h with ⟨hl, ⟨rfl, h0⟩ | ⟨g, off, cap, cur, rfl, hb, hh, rest⟩⟩
  · exact ⟨fun _ => none, fun _ _ e => (by cases e), ⟨hl, .inl ⟨rfl, h0⟩⟩, fun i hi => absurd rfl hi⟩
  · exact ⟨one g _, one_le (h := ph w) hh, ⟨hl, .inr ⟨g, off, cap, cur, rfl, one_at g _, rest⟩⟩, fun i hi => by rw [one_ne hi]; exact ⟨hb, rfl⟩⟩
theorem Sat.newOat (h : Sat b F w) (x : Ext w w') (ho : Oat w' w.heap.size e sz v n cs) : Sat b (row e sz v n cs :: F) w' := by
  obtain ⟨h1, l, hA, hn⟩ := oat_row ho
  exact h.new x l (fun i hi => (hn i hi).1) hA
theorem ent_blk_row {v : Value} (hv : v = .slice (some ⟨g, 0, none⟩) n n) (hn : cs.length = n * sz) (hm : n ≤ 67108864) (k : Nat) (hk : nth F k = some (pt g t cs)) (hG : setF F k (row t sz v n cs) = some G) : Ent F G := by
  subst hv
  refine ent_set k hk (fun h hp => ⟨hn, .inr ⟨g, 0, n, cs.toArray, rfl, hp, Nat.le_refl _, by unfold maxLen; omega, by simp; omega, ?_⟩⟩) hG
  simp only [List.drop_zero]
  rw [← hn]; exact List.take_length
theorem ent_row_drop {A : Option Addr} {c j : Nat} (hj : j ≤ n) (k : Nat) (hk : nth F k = some (row e sz (.slice A n c) n cs)) {v : Value} (hv : v = .slice (if c = j then A else A.map (·.add (j * sz))) (n - j) (c - j))
    (hG : setF F k (row e sz v (n - j) (cs.drop (j * sz))) = some G) : Ent F G := by
  subst hv
  refine ent_set k hk (fun h hA => ?_) hG
  have key : ∀ (w : World), le h (ph w) → row e sz (.slice (if c = j then A else A.map (·.add (j * sz))) (n - j) (c - j)) (n - j) (cs.drop (j * sz)) (ph w) := fun w hl => by
    have := Oat.drop (row_oat hl hA) hj
    refine ⟨this.1, this.2.imp id ?_⟩
    rintro ⟨g, off, cap, cur, h1, _, h2, h3⟩
    exact ⟨g, off, cap, cur, h1, h2, h3⟩
  rcases hA with ⟨hl, ⟨hv, h0⟩ | ⟨g, off, cap, cur, hv, hh, rest⟩⟩
  · simp only [Value.slice.injEq] at hv
    obtain ⟨rfl, h2, rfl⟩ := hv
    obtain rfl : j = 0 := by omega
    exact ⟨by simpa using hl, .inl ⟨by simp; omega, by omega⟩⟩
  · simp only [Value.slice.injEq, true_and] at hv
    obtain ⟨rfl, rfl⟩ := hv
    obtain ⟨hn, hc, hcur, ht⟩ := rest
    refine ⟨by rw [List.length_drop, hl, Nat.sub_mul], ?_⟩
    by_cases hck : c = j
    · subst hck
      obtain rfl : n = c := by omega
      right
      refine ⟨g, off, 0, cur, by simp, hh, by omega, by omega, by simp; have := Nat.zero_le (n * sz); omega, ?_⟩
      simp [← hl]
    · right
      refine ⟨g, off + j * sz, c - j, cur, ?_, hh, by omega, by omega, ?_, ?_⟩
      · rw [if_neg hck]; simp only [Option.map_some, Addr.add]
        split
        · rename_i h0; simp [h0]
        · rfl
      · rw [Nat.sub_mul]; have : j * sz ≤ c * sz := Nat.mul_le_mul_right _ (by omega); omega
      · rw [← ht, List.drop_take, List.drop_drop, Nat.sub_mul]
theorem ent_row_take {A : Option Addr} {c j : Nat} (hj : j ≤ n) (k : Nat) (hk : nth F k = some (row e sz (.slice A n c) n cs)) (hG : setF F k (row e sz (.slice A j c) j (cs.take (j * sz))) = some G) : Ent F G := by
  refine ent_set k hk (fun h hA => ?_) hG
  rcases hA with ⟨hl, ⟨hv, h0⟩ | ⟨g, off, cap, cur, hv, hh, hn, hc, hcur, ht⟩⟩
  · simp only [Value.slice.injEq] at hv
    obtain ⟨rfl, h2, rfl⟩ := hv
    obtain rfl : j = 0 := by omega
    exact ⟨by simp, .inl ⟨rfl, rfl⟩⟩
  · simp only [Value.slice.injEq, true_and] at hv
    obtain ⟨rfl, rfl⟩ := hv
    have hjn : j * sz ≤ n * sz := Nat.mul_le_mul_right _ hj
    refine ⟨by rw [List.length_take, hl]; omega, .inr ⟨g, off, c, cur, rfl, hh, by omega, hc, hcur, ?_⟩⟩
    rw [← ht, List.take_take]; congr 1; omega
end
end Go.Eng
