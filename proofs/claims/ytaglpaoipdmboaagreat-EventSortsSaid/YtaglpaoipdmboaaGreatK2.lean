/- The engine, part fourteen: memory told piece by piece: a list of pieces, each in blocks of its own; what is not told may be anything. Conditions: none. -/
import Derived.Test.YtaglpaoipdmboaaGreatK1
import Derived.Laws.BytesArg
import Derived.Lib.BytesEntry
import Derived.Lib.ConvBytes
import Derived.Lib.SliceRun
import Derived.ChangeKeysEq
import Derived.WideKeyArr2
import Derived.ChangeMaps5
import Derived.Maps.RangeRun
namespace Go.Eng
open Go Go.RowKit

abbrev PH := Nat → Option Obj
abbrev SP := PH → Prop
def le (h k : PH) : Prop := ∀ i o, h i = some o → k i = some o
def apt (h k : PH) : Prop := ∀ i, h i = none ∨ k i = none
def ph (w : World) : PH := fun i => w.heap[i]?
theorem le.refl (h : PH) : le h h := fun _ _ e => e
theorem le.trans {h k l : PH} (a : le h k) (b : le k l) : le h l := fun i o e => b i o (a i o e)
theorem apt.symm {h k : PH} (a : apt h k) : apt k h := fun i => (a i).symm
theorem ph_lt {w : World} {i : Nat} {o : Obj} (h : ph w i = some o) : i < w.heap.size := (Array.getElem?_eq_some_iff.1 h).1

/-- The pieces lie apart from one another in h. -/
def SatH (F : List SP) (h : PH) : Prop := ∃ H : Nat → PH, (∀ i, le (H i) h) ∧ (∀ i j, i ≠ j → apt (H i) (H j)) ∧ ∀ i A, nth F i = some A → A (H i)

theorem SatH.mono {F : List SP} {h k : PH} (s : SatH F h) (l : le h k) : SatH F k := by
  obtain ⟨H, a, b, c⟩ := s
  exact ⟨H, fun i => (a i).trans l, b, c⟩
theorem SatH.get {F : List SP} {h : PH} {k : Nat} {A : SP} (s : SatH F h) (hk : nth F k = some A) : ∃ h1, le h1 h ∧ A h1 := by
  obtain ⟨H, a, b, c⟩ := s
  exact ⟨H k, a k, c k A hk⟩
theorem SatH.nil (h : PH) : SatH [] h := ⟨fun _ _ => none, fun _ _ _ e => (by cases e), fun _ _ _ _ => .inl rfl, fun i A e => (by simp [nth] at e)⟩

/-- Memory, and what is told of it; what lies outside memory is as in b. -/
structure Sat (b : World) (F : List SP) (w : World) : Prop where
  os : w.os = b.os
  tape : w.tape = b.tape
  output : w.output = b.output
  mem : SatH F (ph w)

/-! ## What follows from what -/
def Ent (F G : List SP) : Prop := ∀ h, SatH F h → SatH G h
theorem Ent.refl (F : List SP) : Ent F F := fun _ h => h
theorem Ent.trans {F G K : List SP} (a : Ent F G) (b : Ent G K) : Ent F K := fun h s => b h (a h s)
theorem Sat.ent {b : World} {F G : List SP} {w : World} (h : Sat b F w) (e : Ent F G) : Sat b G w := ⟨h.os, h.tape, h.output, e _ h.mem⟩

def dropN : Nat → List SP → List SP
  | 0, F => F
  | n + 1, F => match F with
    | [] => []
    | _ :: F => dropN n F
theorem nth_dropN (n : Nat) (F : List SP) (j : Nat) : nth (dropN n F) j = nth F (n + j) := by
  induction n generalizing F with
  | zero => simp [dropN]
  | succ n ih =>
    cases F with
    | nil => simp [dropN, nth]
    | cons A F => rw [Nat.succ_add]; simp only [dropN, nth]; exact ih F
def dropO : Nat → List SP → Option (List SP)
  | 0, F => some F
  | n + 1, F => match F with
    | [] => some []
    | _ :: F => dropO n F
theorem dropO_eq (n : Nat) (F : List SP) : dropO n F = some (dropN n F) := by
  induction n generalizing F with
  | zero => rfl
  | succ n ih => cases F with
    | nil => rfl
    | cons A F => exact ih F
/-- The pieces ks, and those behind the first n. -/
def keepO (n : Nat) : List Nat → List SP → Option (List SP)
  | [], F => dropO n F
  | k :: ks, F => match nth F k, keepO n ks F with
    | some A, some G => some (A :: G)
    | _, _ => none
def okKs (n : Nat) : List Nat → Bool
  | [] => true
  | k :: ks => Nat.blt k n && (ks.all fun j => !Nat.beq j k) && okKs n ks
def sig (n : Nat) : List Nat → Nat → Nat
  | [], j => n + j
  | k :: _, 0 => k
  | _ :: ks, j + 1 => sig n ks j
theorem sig_nth {n : Nat} {ks : List Nat} {F G : List SP} (h : keepO n ks F = some G) (j : Nat) : nth G j = nth F (sig n ks j) := by
  induction ks generalizing G j with
  | nil => simp only [keepO, dropO_eq, Option.some.injEq] at h; subst h; exact nth_dropN n F j
  | cons k ks ih =>
    simp only [keepO] at h
    split at h
    · rename_i A G' h1 h2
      simp only [Option.some.injEq] at h
      subst h
      cases j with
      | zero => simp only [nth, sig]; exact h1.symm
      | succ j => simp only [nth, sig]; exact ih h2 j
    · cases h
theorem okKs_lt {n : Nat} {ks : List Nat} (h : okKs n ks = true) (k : Nat) (hk : k ∈ ks) : k < n := by
  induction ks with
  | nil => simp at hk
  | cons a ks ih =>
    simp only [okKs, Bool.and_eq_true] at h
    rcases List.mem_cons.1 hk with rfl | hk
    · exact Nat.le_of_ble_eq_true h.1.1
    · exact ih h.2 hk
theorem sig_mem {n : Nat} {ks : List Nat} (j : Nat) : sig n ks j ∈ ks ∨ (n ≤ sig n ks j ∧ ∃ i, j = ks.length + i ∧ sig n ks j = n + i) := by
  induction ks generalizing j with
  | nil => right; exact ⟨by simp [sig], j, by simp, rfl⟩
  | cons a ks ih =>
    cases j with
    | zero => left; simp [sig]
    | succ j =>
      simp only [sig]
      rcases ih j with h | ⟨h, i, h1, h2⟩
      · left; exact List.mem_cons_of_mem _ h
      · right; exact ⟨h, i, by simp; omega, h2⟩
theorem sig_inj {n : Nat} {ks : List Nat} (h : okKs n ks = true) : ∀ i j, sig n ks i = sig n ks j → i = j := by
  induction ks with
  | nil => intro i j e; simp [sig] at e; exact e
  | cons a ks ih =>
    have hlt := okKs_lt h a List.mem_cons_self
    simp only [okKs, Bool.and_eq_true] at h
    have key : ∀ j, sig n ks j ≠ a := by
      intro j e
      rcases sig_mem (n := n) (ks := ks) j with hm | ⟨hm, _⟩
      · rw [e] at hm
        have := List.all_eq_true.1 h.1.2 a hm
        simp at this
      · omega
    intro i j e
    cases i with
    | zero => cases j with
      | zero => rfl
      | succ j => simp only [sig] at e; exact absurd e.symm (key j)
    | succ i => cases j with
      | zero => simp only [sig] at e; exact absurd e (key i)
      | succ j => simp only [sig] at e; rw [ih h.2 i j e]
theorem ent_keep (n : Nat) (ks : List Nat) {F G : List SP} (hk : okKs n ks = true) (h : keepO n ks F = some G) : Ent F G := by
  rintro m ⟨H, a, b, c⟩
  refine ⟨fun j => H (sig n ks j), fun i => a _, fun i j hij => b _ _ (fun e => hij (sig_inj hk i j e)), fun i A hA => c _ A ?_⟩
  rw [← sig_nth h]; exact hA

def setF : List SP → Nat → SP → Option (List SP)
  | [], _, _ => none
  | _ :: F, 0, B => some (B :: F)
  | A :: F, k + 1, B => match setF F k B with
    | some G => some (A :: G)
    | none => none
theorem setF_nth {F G : List SP} {k : Nat} {B : SP} (h : setF F k B = some G) (j : Nat) : nth G j = if j = k then some B else nth F j := by
  induction F generalizing G k j with
  | nil => simp [setF] at h
  | cons A F ih =>
    cases k with
    | zero => simp only [setF, Option.some.injEq] at h; subst h; cases j <;> simp [nth]
    | succ k =>
      simp only [setF] at h
      split at h
      · rename_i G' h1
        simp only [Option.some.injEq] at h
        subst h
        cases j with
        | zero => simp [nth]
        | succ j => simp only [nth]; rw [ih h1 j]; simp
      · cases h
/-- One piece told otherwise. -/
theorem ent_set (k : Nat) {F G : List SP} {A B : SP} (hA : nth F k = some A) (hB : ∀ h, A h → B h) (hG : setF F k B = some G) : Ent F G := by
  rintro m ⟨H, a, b, c⟩
  refine ⟨H, a, b, fun i C hC => ?_⟩
  rw [setF_nth hG] at hC
  split at hC
  · rename_i e; subst e; cases hC; exact hB _ (c _ _ hA)
  · exact c _ _ hC

/-- Several pieces as one. -/
def all (G : List SP) : SP := SatH G
theorem nth_append {α : Type} (F G : List α) (j : Nat) : nth (F ++ G) j = if j < F.length then nth F j else nth G (j - F.length) := by
  rw [nth_eq, nth_eq, nth_eq, List.getElem?_append]
theorem ent_open {G F : List SP} : Ent (all G :: F) (G ++ F) := by
  rintro m ⟨H, a, b, c⟩
  obtain ⟨K, a', b', c'⟩ := c 0 (all G) rfl
  refine ⟨fun j => if j < G.length then K j else H (j - G.length + 1), fun i => ?_, fun i j hij => ?_, fun i A hA => ?_⟩
  · dsimp only; split
    · exact (a' i).trans (a 0)
    · exact a _
  · dsimp only
    have hK : ∀ i j, apt (K i) (H (j + 1)) := fun i j x => by
      rcases b 0 (j + 1) (by omega) x with h | h
      · left
        cases hx : K i x with
        | none => rfl
        | some o => rw [a' i x o hx] at h; cases h
      · exact .inr h
    split <;> split
    · exact b' i j hij
    · exact hK i _
    · exact (hK j _).symm
    · exact b _ _ (by omega)
  · rw [nth_append] at hA
    dsimp only; split at hA
    · rename_i h; rw [if_pos h]; exact c' i A hA
    · rename_i h; rw [if_neg h]; exact c _ A (by simpa [nth] using hA)
open Classical in
theorem ent_close {G F : List SP} : Ent (G ++ F) (all G :: F) := by
  rintro m ⟨H, a, b, c⟩
  let U : PH := fun i => if e : ∃ j, j < G.length ∧ H j i ≠ none then H e.choose i else none
  have hU : ∀ j, j < G.length → le (H j) U := by
    intro j hj i o ho
    have e : ∃ j, j < G.length ∧ H j i ≠ none := ⟨j, hj, by rw [ho]; simp⟩
    have : U i = H e.choose i := dif_pos e
    rw [this]
    have hs := e.choose_spec
    by_cases hjj : e.choose = j
    · rw [hjj]; exact ho
    · rcases b _ _ hjj i with h | h
      · exact absurd h hs.2
      · rw [ho] at h; cases h
  have hUm : le U m := by
    intro i o ho
    by_cases e : ∃ j, j < G.length ∧ H j i ≠ none
    · have : U i = H e.choose i := dif_pos e
      rw [this] at ho; exact a _ i o ho
    · have : U i = none := dif_neg e
      rw [this] at ho; cases ho
  have hUa : ∀ k, G.length ≤ k → apt U (H k) := by
    intro k hk i
    by_cases e : ∃ j, j < G.length ∧ H j i ≠ none
    · right
      have hs := e.choose_spec
      rcases b e.choose k (by omega) i with h | h
      · exact absurd h hs.2
      · exact h
    · exact .inl (dif_neg e)
  refine ⟨fun j => match j with | 0 => U | j + 1 => H (j + G.length), fun i => ?_, fun i j hij => ?_, fun i A hA => ?_⟩
  · cases i with
    | zero => exact hUm
    | succ i => exact a _
  · cases i with
    | zero => cases j with
      | zero => exact absurd rfl hij
      | succ j => exact hUa _ (by omega)
    | succ i => cases j with
      | zero => exact (hUa _ (by omega)).symm
      | succ j => exact b _ _ (by omega)
  · cases i with
    | zero =>
      simp only [nth, Option.some.injEq] at hA
      subst hA
      refine ⟨fun j => if j < G.length then H j else fun _ => none, fun i => ?_, fun i j hij => ?_, fun i A hA => ?_⟩
      · dsimp only; split
        · exact hU _ (by assumption)
        · intro _ _ e; cases e
      · dsimp only; split
        · split
          · exact b _ _ hij
          · exact fun _ => .inr rfl
        · exact fun _ => .inl rfl
      · have hi : i < G.length := by
          rw [nth_eq] at hA; exact (List.getElem?_eq_some_iff.1 hA).1
        dsimp only; rw [if_pos hi]
        exact c i A (by rw [nth_append, if_pos hi]; exact hA)
    | succ i =>
      simp only [nth] at hA
      exact c _ A (by rw [nth_append, if_neg (by omega)]; simpa using hA)

/-! ## From world to world -/
section
variable {b w w' : World} {F G : List SP}
theorem Sat.ext (h : Sat b F w) (e : Ext w w') : Sat b F w' :=
  ⟨e.os.trans h.os, e.tape.trans h.tape, e.output.trans h.output, h.mem.mono fun i o hi => by
    have := e.keep i (ph_lt hi) id
    exact this.trans hi⟩
/-- A piece in new blocks. -/
theorem Sat.new (h : Sat b F w) (e : Ext w w') {A : SP} {hn : PH} (h1 : le hn (ph w')) (h2 : ∀ i, hn i ≠ none → w.heap.size ≤ i) (hA : A hn) : Sat b (A :: F) w' := by
  have h' := h.ext e
  refine ⟨h'.os, h'.tape, h'.output, ?_⟩
  obtain ⟨H, a, b', c⟩ := h.mem
  have hap : ∀ i, apt hn (H i) := fun i x => by
    by_cases hx : hn x = none
    · exact .inl hx
    · right
      have := h2 x hx
      cases hH : H i x with
      | none => rfl
      | some o => have := ph_lt (a i x o hH); omega
  refine ⟨fun j => match j with | 0 => hn | j + 1 => H j, fun i => ?_, fun i j hij => ?_, fun i A' hA' => ?_⟩
  · cases i with
    | zero => exact h1
    | succ i => exact (a i).trans fun x o hx => (e.keep x (ph_lt hx) id).trans hx
  · cases i with
    | zero => cases j with
      | zero => exact absurd rfl hij
      | succ j => exact hap j
    | succ i => cases j with
      | zero => exact (hap i).symm
      | succ j => exact b' i j (by omega)
  · cases i with
    | zero => simp only [nth, Option.some.injEq] at hA'; subst hA'; exact hA
    | succ i => exact c i A' hA'
/-- One piece turns, and maybe grows into new blocks. -/
theorem Sat.upd (h : Sat b F w) (k : Nat) {A B : SP} {D : Nat → Prop} (hk : nth F k = some A) (e : Fr D w w')
    (hu : ∀ h1, le h1 (ph w) → A h1 → (∀ i, i < w.heap.size → D i → h1 i ≠ none) ∧ ∃ h2, le h2 (ph w') ∧ B h2 ∧ ∀ i, h2 i ≠ none → h1 i ≠ none ∨ w.heap.size ≤ i)
    (hG : setF F k B = some G) : Sat b G w' := by
  refine ⟨e.os.trans h.os, e.tape.trans h.tape, e.output.trans h.output, ?_⟩
  obtain ⟨H, a, b', c⟩ := h.mem
  obtain ⟨hD, h2, l2, hB, hn⟩ := hu (H k) (a k) (c k A hk)
  have hap : ∀ j, j ≠ k → apt h2 (H j) := fun j hj x => by
    by_cases hx : h2 x = none
    · exact .inl hx
    · right
      rcases hn x hx with h1 | h1
      · rcases b' j k hj x with h3 | h3
        · exact h3
        · exact absurd h3 h1
      · cases hH : H j x with
        | none => rfl
        | some o => have := ph_lt (a j x o hH); omega
  refine ⟨fun j => if j = k then h2 else H j, fun i => ?_, fun i j hij => ?_, fun i A' hA' => ?_⟩
  · dsimp only; split
    · exact l2
    · rename_i hne
      intro x o hx
      have hx' := a i x o hx
      refine (e.keep x (ph_lt hx') fun hd => ?_).trans hx'
      rcases b' i k hne x with h3 | h3
      · rw [hx] at h3; cases h3
      · exact hD x (ph_lt hx') hd h3
  · dsimp only; split
    · rename_i e1; subst e1; rw [if_neg (Ne.symm hij)]; exact hap j (Ne.symm hij)
    · split
      · rename_i e1; subst e1; exact (hap i hij).symm
      · exact b' i j hij
  · rw [setF_nth hG] at hA'
    dsimp only; split at hA'
    · rename_i e1; rw [if_pos e1]; cases hA'; exact hB
    · rename_i e1; rw [if_neg e1]; exact c i A' hA'

/-! ## A block known whole -/
def pt (g t : Nat) (cs : List Value) : SP := fun h => h g = some (.cells cs.toArray t (0, 0))
variable {k g t : Nat} {cs cs' : List Value}
theorem Sat.blk (h : Sat b F w) (hk : nth F k = some (pt g t cs)) : Blk w g t cs := by
  obtain ⟨h1, l, hA⟩ := h.mem.get hk
  exact l _ _ hA
def one (g : Nat) (o : Obj) : PH := fun i => if i = g then some o else none
theorem one_le {h : PH} {g : Nat} {o : Obj} (e : h g = some o) : le (one g o) h := by
  intro i u hi; simp only [one] at hi; split at hi
  · rename_i e1; subst e1; cases hi; exact e
  · cases hi
theorem one_ne {g i : Nat} {o : Obj} (h : one g o i ≠ none) : i = g := by
  simp only [one] at h; split at h
  · assumption
  · exact absurd rfl h
theorem one_at (g : Nat) (o : Obj) : one g o g = some o := by simp [one]
theorem Sat.alloc (h : Sat b F w) (e : Ext w w') (hb : Blk w' g t cs) (hg : w.heap.size ≤ g) : Sat b (pt g t cs :: F) w' :=
  h.new e (one_le (h := ph w') hb) (fun i hi => by rw [one_ne hi]; exact hg) (one_at g _)
theorem Sat.write (h : Sat b F w) (hk : nth F k = some (pt g t cs)) (e : Fr (· = g) w w') (hb : Blk w' g t cs') (hG : setF F k (pt g t cs') = some G) : Sat b G w' :=
  h.upd k hk e (fun h1 _ hA => ⟨fun i _ hi => by subst hi; rw [show h1 i = _ from hA]; simp, _, one_le (h := ph w') hb, one_at g _, fun i hi => .inl (by rw [one_ne hi, show h1 g = _ from hA]; simp)⟩) hG
/-! ## What lay there at first -/
def Is (b : World) : SP := fun h => ∀ i o, ph b i = some o → h i = some o
theorem Sat.start (w : World) : Sat w [Is w] w := by
  refine ⟨rfl, rfl, rfl, fun j => match j with | 0 => ph w | _ + 1 => fun _ => none, fun i => ?_, fun i j hij => ?_, fun i A hA => ?_⟩
  · cases i with
    | zero => exact le.refl _
    | succ i => exact fun _ _ e => by cases e
  · cases i with
    | zero => cases j with
      | zero => exact absurd rfl hij
      | succ j => exact fun _ => .inr rfl
    | succ i => exact fun _ => .inl rfl
  · cases i with
    | zero => simp only [nth, Option.some.injEq] at hA; subst hA; exact fun _ _ e => e
    | succ i => simp [nth] at hA
theorem Sat.is (h : Sat b F w) (hk : nth F k = some (Is b)) : Ext b w := by
  obtain ⟨h1, l, hA⟩ := h.mem.get hk
  have hkeep : ∀ i, i < b.heap.size → w.heap[i]? = b.heap[i]? := fun i hi => by
    have : ph b i = some b.heap[i] := Array.getElem?_eq_getElem hi
    exact (l _ _ (hA i _ this)).trans this.symm
  refine ⟨h.os, h.tape, h.output, ?_, fun i hi _ => hkeep i hi⟩
  rcases Nat.lt_or_ge w.heap.size b.heap.size with hlt | hge
  · have := hkeep w.heap.size hlt
    rw [Array.getElem?_eq_none (Nat.le_refl _), Array.getElem?_eq_getElem hlt] at this
    cases this
  · exact hge

/-! ## Rows of the call's own -/
def row (e sz : Nat) (v : Value) (n : Nat) (cs : List Value) : SP := fun h =>
  cs.length = n * sz ∧ ((v = .slice none 0 0 ∧ n = 0) ∨
    ∃ g off cap cur, v = .slice (some ⟨g, off, none⟩) n cap ∧ h g = some (.cells cur e (0, 0)) ∧ n ≤ cap ∧ cap ≤ maxLen ∧ off + cap * sz ≤ cur.size ∧ (cur.toList.drop off).take (n * sz) = cs)
variable {e sz n : Nat} {v : Value}
theorem row_oat {h : PH} (hl : le h (ph w)) (hA : row e sz v n cs h) : Oat w 0 e sz v n cs := by
  refine ⟨hA.1, hA.2.imp id ?_⟩
  rintro ⟨g, off, cap, cur, h1, h2, h3⟩
  exact ⟨g, off, cap, cur, h1, Nat.zero_le _, hl _ _ h2, h3⟩
theorem Sat.oat (h : Sat b F w) (hk : nth F k = some (row e sz v n cs)) : Oat w 0 e sz v n cs := by
  obtain ⟨h1, l, hA⟩ := h.mem.get hk
  exact row_oat l hA
theorem Sat.sl (h : Sat b F w) (hk : nth F k = some (row e sz v n cs)) : SL w sz v n cs := (h.oat hk).sl
theorem oat_row {base : Nat} (h : Oat w base e sz v n cs) : ∃ h1, le h1 (ph w) ∧ row e sz v n cs h1 ∧ ∀ i, h1 i ≠ none → base ≤ i ∧ v.ownBlock = some i := by
  rcases h with ⟨hl, ⟨rfl, h0⟩ | ⟨g, off, cap, cur, rfl, hb, hh, rest⟩⟩
  · exact ⟨fun _ => none, fun _ _ e => (by cases e), ⟨hl, .inl ⟨rfl, h0⟩⟩, fun i hi => absurd rfl hi⟩
  · exact ⟨one g _, one_le (h := ph w) hh, ⟨hl, .inr ⟨g, off, cap, cur, rfl, one_at g _, rest⟩⟩, fun i hi => by rw [one_ne hi]; exact ⟨hb, rfl⟩⟩
theorem Sat.newOat (h : Sat b F w) (x : Ext w w') (ho : Oat w' w.heap.size e sz v n cs) : Sat b (row e sz v n cs :: F) w' := by
  obtain ⟨h1, l, hA, hn⟩ := oat_row ho
  exact h.new x l (fun i hi => (hn i hi).1) hA
theorem ent_blk_row {v : Value} (hv : v = .slice (some ⟨g, 0, none⟩) n n) (hn : cs.length = n * sz) (hm : n ≤ 67108864) (k : Nat) (hk : nth F k = some (pt g t cs)) (hG : setF F k (row t sz v n cs) = some G) : Ent F G := by
  subst hv
  refine ent_set k hk (fun h hp => ⟨hn, .inr ⟨g, 0, n, cs.toArray, rfl, hp, Nat.le_refl _, by unfold maxLen; omega, by simp; omega, ?_⟩⟩) hG
  simp only [List.drop_zero]
  rw [← hn]; exact List.take_length
theorem ent_row_drop {A : Option Addr} {c j : Nat} (hj : j ≤ n) (k : Nat) (hk : nth F k = some (row e sz (.slice A n c) n cs)) {v : Value} (hv : v = .slice (if c = j then A else A.map (·.add (j * sz))) (n - j) (c - j))
    (hG : setF F k (row e sz v (n - j) (cs.drop (j * sz))) = some G) : Ent F G := by
  subst hv
  refine ent_set k hk (fun h hA => ?_) hG
  have key : ∀ (w : World), le h (ph w) → row e sz (.slice (if c = j then A else A.map (·.add (j * sz))) (n - j) (c - j)) (n - j) (cs.drop (j * sz)) (ph w) := fun w hl => by
    have := Oat.drop (row_oat hl hA) hj
    refine ⟨this.1, this.2.imp id ?_⟩
    rintro ⟨g, off, cap, cur, h1, _, h2, h3⟩
    exact ⟨g, off, cap, cur, h1, h2, h3⟩
  rcases hA with ⟨hl, ⟨hv, h0⟩ | ⟨g, off, cap, cur, hv, hh, rest⟩⟩
  · simp only [Value.slice.injEq] at hv
    obtain ⟨rfl, h2, rfl⟩ := hv
    obtain rfl : j = 0 := by omega
    exact ⟨by simpa using hl, .inl ⟨by simp; omega, by omega⟩⟩
  · simp only [Value.slice.injEq, true_and] at hv
    obtain ⟨rfl, rfl⟩ := hv
    obtain ⟨hn, hc, hcur, ht⟩ := rest
    refine ⟨by rw [List.length_drop, hl, Nat.sub_mul], ?_⟩
    by_cases hck : c = j
    · subst hck
      obtain rfl : n = c := by omega
      right
      refine ⟨g, off, 0, cur, by simp, hh, by omega, by omega, by simp; have := Nat.zero_le (n * sz); omega, ?_⟩
      simp [← hl]
    · right
      refine ⟨g, off + j * sz, c - j, cur, ?_, hh, by omega, by omega, ?_, ?_⟩
      · rw [if_neg hck]; simp only [Option.map_some, Addr.add]
        split
        · rename_i h0; simp [h0]
        · rfl
      · rw [Nat.sub_mul]; have : j * sz ≤ c * sz := Nat.mul_le_mul_right _ (by omega); omega
      · rw [← ht, List.drop_take, List.drop_drop, Nat.sub_mul]
end
end Go.Eng
/- The engine, part fifteen: stepping through code where memory is told piece by piece. Conditions: as part two. -/
namespace Go.Eng
open Go Go.RowKit

section
variable {P : Program} {ro : Option Nat} {N : Nat} {l rest : List Oper} {Q : Exit → Act → World → Prop} {E : List (Nat × Value)} {ds : List Deferred} {b : World} {F G : List SP} {e : Exit} {c : Code}

structure SW (P : Program) (ro : Option Nat) (N : Nat) (c : Code) (Q : Exit → Act → World → Prop) (E : List (Nat × Value)) (ds : List Deferred) (b : World) (F : List SP) : Prop where
  run : ∀ w, Sat b F w → CW P ro N c Q E ds w
structure SO (P : Program) (ro : Option Nat) (N : Nat) (l rest : List Oper) (Q : Exit → Act → World → Prop) (E : List (Nat × Value)) (ds : List Deferred) (b : World) (F : List SP) : Prop where
  run : ∀ w, Sat b F w → OW P ro N l rest Q E ds w
structure SN (N : Nat) (Q : Exit → Act → World → Prop) (e : Exit) (E : List (Nat × Value)) (ds : List Deferred) (b : World) (F : List SP) : Prop where
  run : ∀ w, Sat b F w → PN N Q e E ds w
structure SD (P : Program) (fl : Oper → Bool) (ro : Option Nat) (N : Nat) (F0 : List SP) (l : List Oper) (k : Nat) (rest : List Oper) (Q : Exit → Act → World → Prop) (E : List (Nat × Value)) (ds : List Deferred) (b : World) (F : List SP) : Prop where
  run : ∀ w, Sat b F w → DW P fl ro N (Sat b F0) l k rest Q E ds w

/-! ## Code -/
theorem sw_seq {x y : Code} (h : SW P ro N x (Then P ro y Q) E ds b F) : SW P ro N (.seq x y) Q E ds b F := ⟨fun w H => cw_seq (h.1 w H)⟩
theorem sn_then {y : Code} (h : SW P ro N y Q E ds b F) : SN N (Then P ro y Q) .normal E ds b F := ⟨fun w H => pn_then (h.1 w H)⟩
theorem sn_then_ret {y : Code} (h : SN N Q .ret E ds b F) : SN N (Then P ro y Q) .ret E ds b F := ⟨fun w H => pn_then_ret (h.1 w H)⟩
theorem sn_then_exit {y : Code} {i : Nat} (h : SN N Q (.exit i) E ds b F) : SN N (Then P ro y Q) (.exit i) E ds b F := ⟨fun w H => pn_then_exit (h.1 w H)⟩
theorem sw_block {x : Code} {i : Nat} (h : SW P ro N x (Exit.inBlock i Q) E ds b F) : SW P ro N (.block i x) Q E ds b F := ⟨fun w H => cw_block (h.1 w H)⟩
theorem sn_block {i : Nat} (h : SN N Q .normal E ds b F) : SN N (Exit.inBlock i Q) .normal E ds b F := ⟨fun w H => pn_block (h.1 w H)⟩
theorem sn_block_ret {i : Nat} (h : SN N Q .ret E ds b F) : SN N (Exit.inBlock i Q) .ret E ds b F := ⟨fun w H => pn_block_ret (h.1 w H)⟩
theorem sn_block_exit {i : Nat} (h : SN N Q .normal E ds b F) : SN N (Exit.inBlock i Q) (.exit i) E ds b F := ⟨fun w H => pn_block_exit (h.1 w H)⟩
theorem sn_block_other {i j : Nat} (hij : Nat.beq j i = false) (h : SN N Q (.exit j) E ds b F) : SN N (Exit.inBlock i Q) (.exit j) E ds b F := ⟨fun w H => pn_block_other hij (h.1 w H)⟩
theorem sw_skip (h : SN N Q .normal E ds b F) : SW P ro N .skip Q E ds b F := ⟨fun w H => cw_skip (h.1 w H)⟩
theorem sw_ret (h : SN N Q .ret E ds b F) : SW P ro N .ret Q E ds b F := ⟨fun w H => cw_ret (h.1 w H)⟩
theorem sw_exit {i : Nat} (h : SN N Q (.exit i) E ds b F) : SW P ro N (.exit i) Q E ds b F := ⟨fun w H => cw_exit (h.1 w H)⟩
theorem sw_cond_t {o : Operand} {x y : Code} (hc : ev E o = some (.bool true)) (h : SW P ro N x Q E ds b F) : SW P ro N (.cond o x y) Q E ds b F := ⟨fun w H => cw_cond_t hc (h.1 w H)⟩
theorem sw_cond_f {o : Operand} {x y : Code} (hc : ev E o = some (.bool false)) (h : SW P ro N y Q E ds b F) : SW P ro N (.cond o x y) Q E ds b F := ⟨fun w H => cw_cond_f hc (h.1 w H)⟩
theorem sw_cond {o : Operand} {x y : Code} {v : Bool} (hc : ev E o = some (.bool v)) (ht : v = true → SW P ro N x Q E ds b F) (hf : v = false → SW P ro N y Q E ds b F) : SW P ro N (.cond o x y) Q E ds b F := ⟨fun w H => cw_cond hc (fun h => (ht h).1 w H) (fun h => (hf h).1 w H)⟩
theorem sw_if {o : Operand} {x y : Code} {p : Prop} [Decidable p] (hc : ev E o = some (.bool (decide p))) (ht : p → SW P ro N x Q E ds b F) (hf : ¬ p → SW P ro N y Q E ds b F) : SW P ro N (.cond o x y) Q E ds b F := ⟨fun w H => cw_if hc (fun h => (ht h).1 w H) (fun h => (hf h).1 w H)⟩
theorem sw_ifn {o : Operand} {x y : Code} {p : Prop} [Decidable p] (hc : ev E o = some (.bool (!decide p))) (ht : ¬ p → SW P ro N x Q E ds b F) (hf : p → SW P ro N y Q E ds b F) : SW P ro N (.cond o x y) Q E ds b F := ⟨fun w H => cw_cond hc (fun h => (ht (by simpa using h)).1 w H) (fun h => (hf (by simpa using h)).1 w H)⟩
theorem sw_region {i : Nat} (h : SO P ro N l l Q E ds b F) : SW P ro N (.region i l.toArray false) Q E ds b F := ⟨fun w H => cw_region (h.1 w H)⟩
theorem so_nil (h : SN N Q .normal E ds b F) : SO P ro N l [] Q E ds b F := ⟨fun w H => ow_nil (h.1 w H)⟩
theorem sw_sub {E' : List (Nat × Value)} (hs : Sub E' E) (h : SW P ro N c Q E' ds b F) : SW P ro N c Q E ds b F := ⟨fun w H => cw_sub hs (h.1 w H)⟩
theorem sw_ent (he : Ent F G) (h : SW P ro N c Q E ds b G) : SW P ro N c Q E ds b F := ⟨fun w H => h.1 w (H.ent he)⟩
theorem so_ent (he : Ent F G) (h : SO P ro N l rest Q E ds b G) : SO P ro N l rest Q E ds b F := ⟨fun w H => h.1 w (H.ent he)⟩
theorem sn_ent (he : Ent F G) (h : SN N Q e E ds b G) : SN N Q e E ds b F := ⟨fun w H => h.1 w (H.ent he)⟩
theorem sw_fact {p : Prop} (hp : ∀ w, Sat b F w → p) (h : p → SW P ro N c Q E ds b F) : SW P ro N c Q E ds b F := ⟨fun w H => (h (hp w H)).1 w H⟩
theorem so_fact {p : Prop} (hp : ∀ w, Sat b F w → p) (h : p → SO P ro N l rest Q E ds b F) : SO P ro N l rest Q E ds b F := ⟨fun w H => (h (hp w H)).1 w H⟩
theorem sw_know (i : Nat) {u : Value} (v : Value) (hl : look E i = some u) (he : u = v) (h : SW P ro N c Q ((i, v) :: E) ds b F) : SW P ro N c Q E ds b F := ⟨fun w H => cw_know i v hl he (h.1 w H)⟩
theorem so_know (i : Nat) {u : Value} (v : Value) (hl : look E i = some u) (he : u = v) (h : SO P ro N l rest Q ((i, v) :: E) ds b F) : SO P ro N l rest Q E ds b F := ⟨fun w H => o_know i v hl he (h.1 w H)⟩
theorem so_if (i : Nat) {p : Prop} [Decidable p] (hl : look E i = some (.bool (decide p))) (ht : p → SO P ro N l rest Q ((i, .bool true) :: E) ds b F) (hf : ¬ p → SO P ro N l rest Q ((i, .bool false) :: E) ds b F) : SO P ro N l rest Q E ds b F := ⟨fun w H => o_if i hl (fun h => (ht h).1 w H) (fun h => (hf h).1 w H)⟩
/-! ## Loops -/
def RndS {G : Type} (N : Nat) (b : World) (Eg : G → List (Nat × Value)) (Fg : G → List SP) (I : G → Prop) (μ : G → Nat) (g : G) (ds : List Deferred) (a' : Act) (w' : World) : Prop :=
  Rnd N Eg (fun g w => Sat b (Fg g) w ∧ I g) μ g ds a' w'
theorem sw_loop {S : Type} (Eg : S → List (Nat × Value)) (Fg : S → List SP) (I : S → Prop) (μ : S → Nat) (g0 : S) (hs : Sub (Eg g0) E) (he : Ent F (Fg g0)) (h0 : I g0)
    (hr : ∀ g, I g → SW P ro N c (Exit.then (RndS N b Eg Fg I μ g ds) Q) (Eg g) ds b (Fg g)) : SW P ro N (.loop c) Q E ds b F := ⟨fun _ H => cw_loop Eg (fun g w => Sat b (Fg g) w ∧ I g) μ ⟨g0, hs, H.ent he, h0⟩ fun g w hJ => (hr g hJ.2).1 w hJ.1⟩
theorem sn_round {S : Type} {Eg : S → List (Nat × Value)} {Fg : S → List SP} {I : S → Prop} {μ : S → Nat} {g : S} (g' : S) (hs : Sub (Eg g') E) (he : Ent F (Fg g')) (hI : I g') (hlt : μ g' < μ g) :
    SN N (Exit.then (RndS N b Eg Fg I μ g ds) Q) .normal E ds b F := ⟨fun _ H => pn_round g' hs ⟨H.ent he, hI⟩ hlt⟩
theorem sn_loop_ret {K : Act → World → Prop} (h : SN N Q .ret E ds b F) : SN N (Exit.then K Q) .ret E ds b F := ⟨fun w H => pn_loop_ret (h.1 w H)⟩
theorem sn_loop_exit {K : Act → World → Prop} {i : Nat} (h : SN N Q (.exit i) E ds b F) : SN N (Exit.then K Q) (.exit i) E ds b F := ⟨fun w H => pn_loop_exit (h.1 w H)⟩
/-- Where ways come together again. -/
def Mid {G : Type} (N : Nat) (b : World) (Eg : G → List (Nat × Value)) (Fg : G → List SP) (I : G → Prop) (ds : List Deferred) (a' : Act) (w' : World) : Prop :=
  ∃ g, Kn N (Eg g) a' ∧ a'.defers = ds ∧ Sat b (Fg g) w' ∧ I g
theorem sw_mid {S : Type} {x y : Code} (Eg : S → List (Nat × Value)) (Fg : S → List SP) (I : S → Prop) (h : SW P ro N x (Exit.then (Mid N b Eg Fg I ds) Q) E ds b F)
    (hy : ∀ g, I g → SW P ro N y Q (Eg g) ds b (Fg g)) : SW P ro N (.seq x y) Q E ds b F := by
  constructor
  intro w H a hk hd
  refine wpIn_seq (Code.wpIn_mono ?_ (h.1 w H a hk hd))
  intro e a' w' hq
  cases e with
  | normal => obtain ⟨g, hk', hd', hs, hI⟩ := hq; exact (hy g hI).1 w' hs a' hk' hd'
  | _ => exact hq
theorem sn_mid {S : Type} {Eg : S → List (Nat × Value)} {Fg : S → List SP} {I : S → Prop} (g : S) (hs : Sub (Eg g) E) (he : Ent F (Fg g)) (hI : I g) :
    SN N (Exit.then (Mid N b Eg Fg I ds) Q) .normal E ds b F := ⟨fun _ H _ hk hd => ⟨g, hk.sub hs, hd, H.ent he, hI⟩⟩
end

theorem run_appendS {P : Program} {tt : Nat → Option TI} [TT P tt] {w : World} {base t ty e n m : Nat} {i : TI} {s1 s2 : Nat} {z1 : Value} {f1 : List (Nat × Nat)} (ht : tt t = some ⟨.slice e, s1, s2, z1, f1⟩) (he : tt e = some i) (hz : i.zero.cells.size = i.size) (hsz : 0 < i.size)
    {v vx : Value} {cs news : List Value} (hown : Oat w base e i.size v n cs) (hx : SL w i.size vx m news) (h1 : ∀ u ∈ news, u.oneCell' = true)
    (h63 : n + m ≤ maxLen) (hbytes : (n + m) * i.bytes ≤ 140737488355328) (hbase : base ≤ w.heap.size) :
    ∃ v' w', (Builtin.append_ #[t, t] ty #[v, vx]).run P w = .ok v' w' ∧ Oat w' base e i.size v' (n + m) (cs ++ news) ∧ Fr (fun k => v.ownBlock = some k) w w' ∧ ∀ k, v'.ownBlock = some k → v.ownBlock = some k ∨ w.heap.size ≤ k := by
  rcases hown.2 with ⟨rfl, rfl⟩ | ⟨g, off, cap, cur, rfl, hbg, hh, hnc, hcm, hcs, htake⟩
  · have hm : Mine w base e i.size (.slice none 0 0) 0 cs := ⟨hown.1, .inl ⟨rfl, rfl⟩⟩
    have hm' : Mine w w.heap.size e i.size (.slice none 0 0) 0 cs := ⟨hown.1, .inl ⟨rfl, rfl⟩⟩
    obtain ⟨v', w', h2, h3, h4⟩ := run_append (P := P) (ty := ty) ht he hz hsz hm' hx h1 h63 hbytes (Nat.le_refl _)
    exact ⟨v', w', h2, (Mine.oat h3).weaken hbase, h4, fun k hk => .inr (Mine.block h3 hk).1⟩
  · obtain ⟨j, hj, h2, h3, h4⟩ := TT.info (P := P) e i he
    have hu := TT.und (P := P) t _ ht rfl
    have hlen : (cs ++ news).length = (n + m) * i.size := by rw [List.length_append, hown.1, hx.choose_spec.choose_spec.2.1, Nat.add_mul]
    obtain ⟨A, c, rfl, hl, hc, hm, hz0, hcell⟩ := hx
    cases A with
    | none =>
      have hm0 : m = 0 := by have := hz0 rfl; omega
      subst hm0
      have hn : news = [] := List.eq_nil_of_length_eq_zero (by simpa using hl)
      subst hn
      refine ⟨_, w, ?_, by simpa using hown, Fr.refl _ w, fun _ hk => .inl hk⟩
      simp [Builtin.append_, run_underlying hu, sizeOf, typeInfo, hj, Builtin.lenOf, Builtin.firstCells, hnc, storeCells]
    | some a =>
      have hnews : ∀ k u, news[k]? = some u → w.cell? (a.add k) = some u := by
        intro k u hk
        have hlt : k < news.length := (List.getElem?_eq_some_iff.1 hk).1
        have hm0 : 0 < m := by
          rcases Nat.eq_zero_or_pos m with h0 | h0
          · subst h0; simp at hl; subst hl; simp at hlt
          · exact h0
        obtain ⟨b, off', hab, hb, hcc⟩ := hcell hm0
        cases hab
        have ha : (⟨b, off', none⟩ : Addr).add k = ⟨b, off' + k, none⟩ := by unfold Addr.add; split <;> simp_all
        rw [ha, hcc k hlt, hk]
      have hsmall : n + m ≤ 9223372036854775807 := by simp only [maxLen] at h63; omega
      by_cases hroom : n + m ≤ cap
      · have hfit : off + n * i.size + 0 + news.length ≤ cur.size := by
          have : (n + m) * i.size ≤ cap * i.size := Nat.mul_le_mul_right _ hroom
          rw [Nat.add_mul] at this
          omega
        have hf := run_firstCells_some (P := P) w i.size m a m c news hl hnews
        have hst := run_storeCells_at P g (off + n * i.size) e news 0 cur w hh hfit h1
        simp only [Nat.add_zero] at hst
        have ha : (⟨g, off, none⟩ : Addr).add (n * i.size) = ⟨g, off + n * i.size, none⟩ := by unfold Addr.add; split <;> simp_all
        obtain ⟨row, hrow⟩ : ∃ row : List Value, row = cur.toList.take (off + n * i.size) ++ news ++ cur.toList.drop (off + n * i.size + news.length) := ⟨_, rfl⟩
        rw [← hrow] at hst
        refine ⟨.slice (some ⟨g, off, none⟩) (n + m) cap, w.setRow g row.toArray, ?_, ⟨hlen, .inr ⟨g, off, cap, row.toArray, rfl, hbg, setRow_heap w g cur _ e _ hh, hroom, hcm, ?_, ?_⟩⟩, (Fr.setRow w g _).mono fun k _ hk => (by simp [Value.ownBlock, hk]), fun _ hk => .inl hk⟩
        · have hn' : ¬ (cap < n + m) := by omega
          simp [Builtin.append_, run_underlying hu, sizeOf, typeInfo, hj, h2, Builtin.lenOf, hroom, hf, ha, hst]
        · subst hrow
          simp only [List.size_toArray, List.length_append, List.length_take, List.length_drop, Array.length_toList]
          omega
        · have e1 : cur.toList.take (off + n * i.size) = cur.toList.take off ++ cs := by
            rw [← htake, List.take_add]
          have hlo : (cur.toList.take off).length = off := by
            rw [List.length_take, Array.length_toList]; omega
          subst hrow
          show ((cur.toList.take (off + n * i.size) ++ news ++ _).drop off).take _ = _
          rw [e1, List.append_assoc, List.append_assoc, List.drop_append_of_le_length (by omega), List.drop_of_length_le (by omega), List.nil_append, ← List.append_assoc, ← hlen]
          exact List.take_left
      · have holds : ∀ k u, cs[k]? = some u → w.cell? ((⟨g, off, none⟩ : Addr).add k) = some u := by
          intro k u hk
          have hlt : k < cs.length := (List.getElem?_eq_some_iff.1 hk).1
          have ha : (⟨g, off, none⟩ : Addr).add k = ⟨g, off + k, none⟩ := by unfold Addr.add; split <;> simp_all
          rw [ha, cell_of_row w g (off + k) cur e (0, 0) hh, ← hk, ← htake, List.getElem?_take, if_pos (by rw [← hown.1]; exact hlt), List.getElem?_drop]
          simp
        have hr := run_append_grow (P := P) w t ty e j i.zero hu hj h4 ⟨g, off, none⟩ n cap cs (by rw [h2]; exact hown.1) holds a m c news (by rw [h2]; exact hl) hnews (by omega) (by omega) (growslice_fits (by omega) (by rw [h3]; exact hbytes))
        refine ⟨_, _, hr, ⟨hlen, .inr ⟨w.heap.size, 0, _, _, rfl, hbase, heap_alloc_new w.drew _, grownCap_ge w (n + m) cap e, grownCap_le_maxLen w (n + m) cap e h63, ?_, ?_⟩⟩, (Fr.drew w).trans (Fr.alloc _ _), fun k hk => .inr (by simp only [Value.ownBlock, Option.some.injEq] at hk; omega)⟩
        · have hge := grownCap_ge w (n + m) cap e
          simp only [Array.size_append, List.size_toArray, size_zeroCells, hz, hown.1, hl, ← Nat.add_mul, Nat.zero_add]
          apply Nat.le_of_eq
          congr 1
          omega
        · simp only [Array.toList_append, List.append_assoc, List.drop_zero]
          rw [← List.append_assoc, ← hlen]
          exact List.take_left

/-! ## Operations -/
section
variable {P : Program} {tt : Nat → Option TI} [TT P tt] {ro : Option Nat} {N : Nat} {l rest : List Oper} {Q : Exit → Act → World → Prop} {E : List (Nat × Value)} {ds : List Deferred} {b : World} {F G : List SP}
  {d : Nat} {op : Op} {ty : TypeId} {pos : String} {aft : Array Edge} {g : Option (Nat × Bool)} {v : Value}
theorem so_skip (hg : wants l E g = some false) (hd : Nat.blt d N = true) (h : SO P ro N l rest Q ((d, undef) :: E) ds b F) : SO P ro N l (⟨some d, op, ty, pos, aft, g⟩ :: rest) Q E ds b F := ⟨fun w H => ow_skip hg hd (h.1 w H)⟩
theorem so_pu (hg : wants l E g = some true) (hx : Pu P E op ty v) (hd : Nat.blt d N = true) (h : SO P ro N l rest Q ((d, v) :: E) ds b F) : SO P ro N l (⟨some d, op, ty, pos, aft, g⟩ :: rest) Q E ds b F := ⟨fun w H => ow_pu hg hx hd (h.1 w H)⟩
theorem so_ix (k : Nat) {b' o n s : Nat} {i : Int} (hg : wants l E g = some true) (hx : ixv tt E op = some (b', o, n, i, s)) (hd : Nat.blt d N = true) (hi : i = (k : Int)) (hk : k < n)
    (h : SO P ro N l rest Q ((d, .pointer (some ⟨b', o + mulz k s, none⟩)) :: E) ds b F) : SO P ro N l (⟨some d, op, ty, pos, aft, g⟩ :: rest) Q E ds b F := so_pu hg (ixv_sound hx hi hk) hd h
/-- What reads. -/
theorem so_rd (hg : wants l E g = some true) (hx : ∀ w, Sat b F w → Ex P E op ty w v w) (hd : Nat.blt d N = true) (h : SO P ro N l rest Q ((d, v) :: E) ds b F) : SO P ro N l (⟨some d, op, ty, pos, aft, g⟩ :: rest) Q E ds b F := ⟨fun w H => ow_ex hg (hx w H) hd (h.1 w H)⟩
/-- A segment of cells. -/
def segO : List Value → Nat → Nat → Option (List Value)
  | _, 0, 0 => some []
  | [], _, _ => none
  | c :: cs, 0, n + 1 => match segO cs 0 n with
    | some r => some (c :: r)
    | none => none
  | _ :: cs, o + 1, n => segO cs o n
theorem segO_get {cs vs : List Value} {o n : Nat} (h : segO cs o n = some vs) : vs.length = n ∧ ∀ j, j < n → cs[o + j]? = vs[j]? := by
  induction cs generalizing o n vs with
  | nil =>
    cases o <;> cases n <;> simp [segO] at h
    subst h; simp
  | cons c cs ih =>
    cases o with
    | zero =>
      cases n with
      | zero => simp [segO] at h; subst h; simp
      | succ n =>
        simp only [segO] at h
        split at h
        · rename_i r hr
          simp only [Option.some.injEq] at h
          subst h
          obtain ⟨h1, h2⟩ := ih hr
          refine ⟨by simp [h1], fun j hj => ?_⟩
          cases j with
          | zero => simp
          | succ j => have := h2 j (by omega); simpa using this
        · cases h
    | succ o =>
      have h' : segO cs o n = some vs := by cases n <;> simpa only [segO] using h
      obtain ⟨h1, h2⟩ := ih h'
      refine ⟨h1, fun j hj => ?_⟩
      have := h2 j hj
      rw [show o + 1 + j = (o + j) + 1 from by omega]
      simpa using this
theorem ex_ld {t g' t0 off : Nat} {x : Operand} {i : TI} {cs : List Value} (k : Nat) (ht : tt t = some i) (hagg : aggT i.desc = false) (hx : ev E x = some (.pointer (some ⟨g', off, none⟩))) (hF : nth F k = some (pt g' t0 cs)) (hv : nth cs off = some v) :
    ∀ w, Sat b F w → Ex P E (.load t x) ty w v w := fun w H => ex_load ht hagg hx (by rw [(H.blk hF).cell off, ← nth_eq]; exact hv)
theorem ex_ldA {t g' t0 off : Nat} {x : Operand} {i : TI} {cs vs : List Value} (k : Nat) (ht : tt t = some i) (hagg : aggT i.desc = true) (hx : ev E x = some (.pointer (some ⟨g', off, none⟩))) (hF : nth F k = some (pt g' t0 cs)) (hv : segO cs off i.size = some vs) :
    ∀ w, Sat b F w → Ex P E (.load t x) ty w (.agg ⟨vs⟩) w := fun w H => by
  obtain ⟨h1, h2⟩ := segO_get hv
  exact ex_loadN ht hagg hx h1 (fun j hj => by rw [(H.blk hF).cell]; exact h2 j (by omega))
theorem so_ld {t g' t0 off : Nat} {x : Operand} {i : TI} {cs : List Value} (k : Nat) (hg : wants l E g = some true) (hop : op = .load t x) (ht : tt t = some i) (hagg : aggT i.desc = false) (hx : ev E x = some (.pointer (some ⟨g', off, none⟩))) (hF : nth F k = some (pt g' t0 cs)) (hv : nth cs off = some v)
    (hd : Nat.blt d N = true) (h : SO P ro N l rest Q ((d, v) :: E) ds b F) : SO P ro N l (⟨some d, op, ty, pos, aft, g⟩ :: rest) Q E ds b F := by
  subst hop; exact so_rd hg (ex_ld k ht hagg hx hF hv) hd h
theorem so_ldA {t g' t0 off : Nat} {x : Operand} {i : TI} {cs vs : List Value} (k : Nat) (hg : wants l E g = some true) (hop : op = .load t x) (ht : tt t = some i) (hagg : aggT i.desc = true) (hx : ev E x = some (.pointer (some ⟨g', off, none⟩))) (hF : nth F k = some (pt g' t0 cs)) (hv : segO cs off i.size = some vs)
    (hd : Nat.blt d N = true) (h : SO P ro N l rest Q ((d, .agg ⟨vs⟩) :: E) ds b F) : SO P ro N l (⟨some d, op, ty, pos, aft, g⟩ :: rest) Q E ds b F := by
  subst hop; exact so_rd hg (ex_ldA k ht hagg hx hF hv) hd h
/-- What writes. -/
def stO : List Value → Nat → Value → Option (List Value)
  | [], _, _ => none
  | _ :: cs, 0, v => some (v :: cs)
  | c :: cs, o + 1, v => match stO cs o v with
    | some r => some (c :: r)
    | none => none
theorem stO_set {cs r : List Value} {o : Nat} {v : Value} (h : stO cs o v = some r) : r = cs.set o v ∧ o < cs.length := by
  induction cs generalizing o r with
  | nil => simp [stO] at h
  | cons c cs ih =>
    cases o with
    | zero => simp [stO] at h; subst h; simp
    | succ o =>
      simp only [stO] at h
      split at h
      · rename_i r' hr
        simp only [Option.some.injEq] at h
        subst h
        obtain ⟨rfl, h2⟩ := ih hr
        simp; exact h2
      · cases h
theorem so_wr {w1 : World → World → Prop} (hg : wants l E g = some true) (hx : ∀ w, Sat b F w → ∃ w', Eu P E op ty w w' ∧ Sat b G w') (h : SO P ro N l rest Q E ds b G) :
    SO P ro N l (⟨none, op, ty, pos, aft, g⟩ :: rest) Q E ds b F := ⟨fun w H => by
  obtain ⟨w', h1, h2⟩ := hx w H
  exact ow_eu hg h1 (h.1 w' h2)⟩
theorem eu_st {t g' t0 off : Nat} {x y : Operand} {i : TI} {cs cs' : List Value} (k : Nat) (ht : tt t = some i) (hs : i.size = 1) (hx : ev E x = some (.pointer (some ⟨g', off, none⟩))) (hy : ev E y = some v) (hv : v.oneCell' = true) (hF : nth F k = some (pt g' t0 cs))
    (hc : stO cs off v = some cs') (hG : setF F k (pt g' t0 cs') = some G) : ∀ w, Sat b F w → ∃ w', Eu P E (.store t x y) ty w w' ∧ Sat b G w' := fun w H => by
  obtain ⟨rfl, hlt⟩ := stO_set hc
  have B := H.blk hF
  exact ⟨_, eu_store ht hs hx hy hv (u := cs[off]) (by rw [B.cell off]; exact List.getElem?_eq_getElem hlt) (B.frozen off), H.write hF (Fr.setCell w ⟨g', off, none⟩ v) (B.set off v) hG⟩
theorem so_st {t g' t0 off : Nat} {x y : Operand} {i : TI} {cs cs' : List Value} (k : Nat) (hg : wants l E g = some true) (hop : op = .store t x y) (ht : tt t = some i) (hs : i.size = 1) (hx : ev E x = some (.pointer (some ⟨g', off, none⟩))) (hy : ev E y = some v) (hv : v.oneCell' = true) (hF : nth F k = some (pt g' t0 cs))
    (hc : stO cs off v = some cs') (hG : setF F k (pt g' t0 cs') = some G) (h : SO P ro N l rest Q E ds b G) : SO P ro N l (⟨none, op, ty, pos, aft, g⟩ :: rest) Q E ds b F := by
  subst hop; exact so_wr (w1 := fun _ _ => True) hg (eu_st k ht hs hx hy hv hF hc hG) h
/-- Several cells at once. -/
def splO : List Value → Nat → List Value → Option (List Value)
  | cs, 0, [] => some cs
  | [], _, _ => none
  | _ :: cs, 0, v :: vs => match splO cs 0 vs with
    | some r => some (v :: r)
    | none => none
  | c :: cs, o + 1, vs => match splO cs o vs with
    | some r => some (c :: r)
    | none => none
theorem splO_spl {cs vs r : List Value} {o : Nat} (h : splO cs o vs = some r) : r = spl cs o vs ∧ o + vs.length ≤ cs.length := by
  induction cs generalizing o vs r with
  | nil => cases o <;> cases vs <;> simp [splO] at h; subst h; simp [spl]
  | cons c cs ih =>
    cases o with
    | zero =>
      cases vs with
      | nil => simp [splO] at h; subst h; simp [spl]
      | cons v vs =>
        simp only [splO] at h
        split at h
        · rename_i r' hr
          simp only [Option.some.injEq] at h
          subst h
          obtain ⟨rfl, h2⟩ := ih hr
          refine ⟨by simp [spl], by simp; omega⟩
        · cases h
    | succ o =>
      have h' : (match splO cs o vs with | some r => some (c :: r) | none => none) = some r := by cases vs <;> simpa only [splO] using h
      split at h'
      · rename_i r' hr
        simp only [Option.some.injEq] at h'
        subst h'
        obtain ⟨rfl, h2⟩ := ih hr
        refine ⟨?_, by simp; omega⟩
        simp only [spl, List.take_succ_cons, List.cons_append]
        rw [show o + 1 + vs.length = (o + vs.length) + 1 from by omega, List.drop_succ_cons]
      · cases h'
def zlist : Value → Option (List Value)
  | .agg ⟨cs⟩ => some cs
  | v => some [v]
theorem zlist_eq {v : Value} {cs : List Value} (h : zlist v = some cs) : v.cells.toList = cs := by
  cases v <;> simp [zlist] at h <;> first | (subst h; rfl) | (obtain rfl := h; rfl)
theorem eu_stA {t g' t0 off : Nat} {x y : Operand} {i : TI} {cs vs cs' : List Value} (k : Nat) (ht : tt t = some i) (hx : ev E x = some (.pointer (some ⟨g', off, none⟩))) (hy : ev E y = some v) (hz : zlist v = some vs) (hs : Nat.beq vs.length i.size = true) (hv : vs.all (·.oneCell') = true) (hF : nth F k = some (pt g' t0 cs))
    (hc : splO cs off vs = some cs') (hG : setF F k (pt g' t0 cs') = some G) : ∀ w, Sat b F w → ∃ w', Eu P E (.store t x y) ty w w' ∧ Sat b G w' := fun w H => by
  obtain ⟨rfl, hlt⟩ := splO_spl hc
  have B := H.blk hF
  exact ⟨_, eu_storeB (vs := vs) ht hx hy (zlist_eq hz) hs (fun u hu => List.all_eq_true.1 hv u hu) B (Nat.ble_eq_true_of_le hlt), H.write hF (Fr.setRow _ _ _) B.setRow hG⟩
theorem so_stA {t g' t0 off : Nat} {x y : Operand} {i : TI} {cs vs cs' : List Value} (k : Nat) (hg : wants l E g = some true) (hop : op = .store t x y) (ht : tt t = some i) (hx : ev E x = some (.pointer (some ⟨g', off, none⟩))) (hy : ev E y = some v) (hz : zlist v = some vs) (hs : Nat.beq vs.length i.size = true) (hv : vs.all (·.oneCell') = true) (hF : nth F k = some (pt g' t0 cs))
    (hc : splO cs off vs = some cs') (hG : setF F k (pt g' t0 cs') = some G) (h : SO P ro N l rest Q E ds b G) : SO P ro N l (⟨none, op, ty, pos, aft, g⟩ :: rest) Q E ds b F := by
  subst hop; exact so_wr (w1 := fun _ _ => True) hg (eu_stA k ht hx hy hz hs hv hF hc hG) h
/-- A whole block is written over. -/
theorem so_stW {t g' t0 : Nat} {x y : Operand} {i : TI} {cs vs : List Value} (k : Nat) (hg : wants l E g = some true) (hop : op = .store t x y) (ht : tt t = some i) (hx : ev E x = some (.pointer (some ⟨g', 0, none⟩))) (hy : ev E y = some (.agg ⟨vs⟩)) (hF : nth F k = some (pt g' t0 cs)) (hG : setF F k (pt g' t0 vs) = some G)
    (hs : vs.length = i.size) (hv : ∀ u ∈ vs, u.oneCell' = true) (hc : vs.length = cs.length) (h : SO P ro N l rest Q E ds b G) : SO P ro N l (⟨none, op, ty, pos, aft, g⟩ :: rest) Q E ds b F := by
  subst hop
  refine so_wr (w1 := fun _ _ => True) hg (fun w H => ?_) h
  have B := H.blk hF
  exact ⟨_, eu_storeW (vs := vs) ht hx hy rfl (by rw [hs]; exact Nat.beq_refl _) hv B hc, H.write hF (Fr.setRow _ _ _) B.setRow hG⟩
/-- New blocks. -/
theorem so_new {t : Nat} {i : TI} {zs : List Value} (hg : wants l E g = some true) (hop : op = .alloc t) (ht : tt t = some i) (hz : zlist i.zero = some zs) (hd : Nat.blt d N = true)
    (h : ∀ g', SO P ro N l rest Q ((d, .pointer (some ⟨g', 0, none⟩)) :: E) ds b (pt g' t zs :: F)) : SO P ro N l (⟨some d, op, ty, pos, aft, g⟩ :: rest) Q E ds b F := ⟨fun w H => by
  refine ow_new hg hop ht hd fun w' B x _ => (h w.heap.size).1 w' ?_
  rw [zlist_eq hz] at B
  exact H.alloc x B (Nat.le_refl _)⟩
theorem so_box {t : Nat} {x : Operand} {cs : List Value} (hg : wants l E g = some true) (hop : op = .box t x) (hx : ev E x = some v) (hz : zlist v = some cs) (hd : Nat.blt d N = true)
    (h : ∀ g', SO P ro N l rest Q ((d, .pointer (some ⟨g', 0, none⟩)) :: E) ds b (pt g' t cs :: F)) : SO P ro N l (⟨some d, op, ty, pos, aft, g⟩ :: rest) Q E ds b F := ⟨fun w H => by
  refine ow_box hg hop hx hd fun w' B x _ => (h w.heap.size).1 w' ?_
  rw [zlist_eq hz] at B
  exact H.alloc x B (Nat.le_refl _)⟩
/-- A slice literal. -/
theorem so_lit (us : List Value) {t len e s1 s2 : Nat} {z1 : Value} {f1 : List (Nat × Nat)} {i : TI} {parts : List (Nat × Operand)} (hg : wants l E g = some true) (hop : op = .buildSlice t len ⟨parts⟩)
    (ht : tt t = some ⟨.slice e, s1, s2, z1, f1⟩) (he : tt e = some i) (hi : Nat.beq i.size 1 = true) (hp : evp E parts = some (enum 0 us)) (hl : (Nat.beq len us.length && Nat.ble len 16777216) = true) (h1 : us.all (·.oneCell') = true) (hd : Nat.blt d N = true)
    (h : ∀ g', SO P ro N l rest Q ((d, .slice (some ⟨g', 0, none⟩) len len) :: E) ds b (pt g' e us :: F)) : SO P ro N l (⟨some d, op, ty, pos, aft, g⟩ :: rest) Q E ds b F := ⟨fun w H =>
  ow_lit us hg hop ht he hi hp hl h1 hd fun w' B x => (h w.heap.size).1 w' (H.alloc x B (Nat.le_refl _))⟩
/-- What is appended to a row of its own. -/
theorem so_append {t e n m sz s1 s2 : Nat} {z1 : Value} {f1 : List (Nat × Nat)} {i : TI} {x y : Operand} {vx : Value} {cs news : List Value} (k : Nat) (hg : wants l E g = some true) (hd : Nat.blt d N = true)
    (hop : op = .call ⟨.builtin .append, ⟨[x, y]⟩, ⟨[t, t]⟩⟩) (ht : tt t = some ⟨.slice e, s1, s2, z1, f1⟩) (he : tt e = some i) (hi : (Nat.beq i.zero.cells.size sz && Nat.beq i.size sz && Nat.ble i.bytes 2097152 && Nat.blt 0 sz) = true)
    (hx : ev E x = some v) (hy : ev E y = some vx) (hF : nth F k = some (row e sz v n cs)) (hsl : ∀ w, Sat b F w → SL w sz vx m news) (h1 : ∀ u ∈ news, u.oneCell' = true) (hn : n + m ≤ 67108864) {Gf : Value → List SP} (hG : ∀ v', setF F k (row e sz v' (n + m) (cs ++ news)) = some (Gf v'))
    (h : ∀ v', SO P ro N l rest Q ((d, v') :: E) ds b (Gf v')) : SO P ro N l (⟨some d, op, ty, pos, aft, g⟩ :: rest) Q E ds b F := by
  have hi' := hi
  simp only [Bool.and_eq_true] at hi'
  obtain ⟨⟨⟨h1', h2'⟩, h3'⟩, h4'⟩ := hi'
  have e1 := Nat.eq_of_beq_eq_true h1'; have e2 := Nat.eq_of_beq_eq_true h2'; have e3 := Nat.le_of_ble_eq_true h3'; have e4 : 0 < sz := Nat.le_of_ble_eq_true h4'
  subst e2
  constructor
  intro w H
  subst hop
  have hbytes : (n + m) * i.bytes ≤ 140737488355328 := Nat.le_trans (Nat.mul_le_mul hn e3) (by decide)
  obtain ⟨v', w', hrun, ho, hf, hnb⟩ := run_appendS (P := P) (ty := ty) ht he e1 e4 (H.oat hF) (hsl w H) h1 (by unfold maxLen; omega) hbytes (Nat.zero_le _)
  refine ow_ex hg ?_ hd ((h v').1 w' ?_)
  · intro ρ o hρ hop' hty
    subst hty
    simp only [execOp, hop', resolve, invoke, builtin, Sem.run_bind, Sem.run_pure, Result.andThen]
    have e1 : Array.map ρ #[x, y] = #[v, vx] := by simp [hρ _ _ hx, hρ _ _ hy]
    simp only [e1, hrun]
  · obtain ⟨h3, l3, hA, hn3⟩ := oat_row ho
    refine H.upd k hF hf (fun h4 l4 hA4 => ?_) (hG v')
    have key : ∀ q, v.ownBlock = some q → h4 q ≠ none := by
      intro q hq
      rcases hA4.2 with ⟨rfl, _⟩ | ⟨g5, off5, cap5, cur5, rfl, hh5, _⟩
      · cases hq
      · simp only [Value.ownBlock, Option.some.injEq] at hq
        subst hq; rw [hh5]; simp
    exact ⟨fun q _ hq => key q hq, h3, l3, hA, fun q hq => (hnb q (hn3 q hq).2).imp (key q) id⟩
/-- A row of its own is stored into. -/
theorem eu_strow {t g' off e sz n cap o : Nat} {x y : Operand} {i : TI} {cs vs cs' : List Value} (k : Nat) (ht : tt t = some i) (hx : ev E x = some (.pointer (some ⟨g', off, none⟩))) (hy : ev E y = some v) (hz : zlist v = some vs) (hs : Nat.beq vs.length i.size = true) (hv : ∀ u ∈ vs, u.oneCell' = true)
    {o0 : Nat} (hF : nth F k = some (row e sz (.slice (some ⟨g', o0, none⟩) n cap) n cs)) (ho : off = o0 + o) (hfit : o + vs.length ≤ cs.length) (hc : spl cs o vs = cs') (hG : setF F k (row e sz (.slice (some ⟨g', o0, none⟩) n cap) n cs') = some G) : ∀ w, Sat b F w → ∃ w', Eu P E (.store t x y) ty w w' ∧ Sat b G w' := fun w H => by
  subst hc
  subst ho
  have hO := H.oat hF
  rcases hO with ⟨hl, ⟨hv0, h0⟩ | ⟨g2, off2, cap2, cur, hv0, _, hh, hnc, hcm, hcs, htk⟩⟩
  · cases hv0
  simp only [Value.slice.injEq, Option.some.injEq, Addr.mk.injEq, true_and, and_true] at hv0
  obtain ⟨⟨rfl, rfl⟩, rfl⟩ := hv0
  have hle : n * sz ≤ cap * sz := Nat.mul_le_mul_right _ hnc
  have hfit2 : o0 + o + vs.length ≤ cur.size := by omega
  refine ⟨_, eu_storeRow (vs := vs) ht hx hy (zlist_eq hz) hs hv hh hfit2, ?_⟩
  refine H.upd k hF (Fr.setRow w g' _) (fun h4 l4 hA4 => ?_) hG
  have h4g : h4 g' = some (.cells cur e (0, 0)) := by
    rcases hA4.2 with ⟨hv4, _⟩ | ⟨g5, off5, cap5, cur5, hv5, hh5, _⟩
    · cases hv4
    · simp only [Value.slice.injEq, Option.some.injEq, Addr.mk.injEq] at hv5
      obtain ⟨⟨rfl, _⟩, _⟩ := hv5
      have := (l4 _ _ hh5).symm.trans hh
      rw [hh5]; exact this
  refine ⟨fun q _ hq => by subst hq; rw [h4g]; simp, _, one_le (h := ph _) (setRow_heap w g' cur _ e _ hh), ⟨by rw [spl_length hfit]; exact hl, .inr ⟨g', o0, cap, _, rfl, one_at g' _, hnc, hcm, ?_, ?_⟩⟩, fun q hq => .inl (by rw [one_ne hq, h4g]; simp)⟩
  · rw [List.size_toArray, spl_length (by rw [Array.length_toList]; omega), Array.length_toList]; exact hcs
  · have e1 : cs = (cur.toList.drop o0).take (n * sz) := htk.symm
    apply List.ext_getElem?
    intro j
    have hcl : cur.toList.length = cur.size := Array.length_toList
    simp only [spl, List.getElem?_take, List.getElem?_drop, List.getElem?_append, List.length_take, List.length_append, List.length_drop, e1]
    simp only [hcl]
    by_cases h1 : j < n * sz
    · rw [if_pos h1]
      by_cases h2 : j < o
      · rw [if_pos (by omega), if_pos (by omega), if_pos (by omega), if_pos h2, if_pos h1]
      · by_cases h3 : j - o < vs.length
        · rw [if_neg (by omega), if_pos (by omega), if_neg (by omega), if_pos (by omega)]
          congr 1; omega
        · rw [if_neg (by omega), if_neg (by omega), if_neg (by omega), if_neg (by omega), if_pos (by omega)]
          congr 1; omega
    · rw [if_neg h1, if_neg (by omega), if_neg (by omega), if_neg (by omega)]
theorem so_strow {t g' off e sz n cap : Nat} {x y : Operand} {i : TI} {cs vs cs' : List Value} (k o : Nat) (hg : wants l E g = some true) (hop : op = .store t x y) (ht : tt t = some i) (hx : ev E x = some (.pointer (some ⟨g', off, none⟩))) (hy : ev E y = some v) (hz : zlist v = some vs) (hs : Nat.beq vs.length i.size = true)
    {o0 : Nat} (hF : nth F k = some (row e sz (.slice (some ⟨g', o0, none⟩) n cap) n cs)) (hc : spl cs o vs = cs') (hG : setF F k (row e sz (.slice (some ⟨g', o0, none⟩) n cap) n cs') = some G) (ho : off = o0 + o) (hfit : o + vs.length ≤ cs.length) (hv : ∀ u ∈ vs, u.oneCell' = true) (h : SO P ro N l rest Q E ds b G) : SO P ro N l (⟨none, op, ty, pos, aft, g⟩ :: rest) Q E ds b F := by
  subst hop; exact so_wr (w1 := fun _ _ => True) hg (eu_strow k ht hx hy hz hs hv hF ho hfit hc hG) h
end

/-! ## Calls -/
section
variable {P : Program} {b : World} {F G : List SP} {f : FuncId} {args : List Value}
def PostS (b : World) (R : Value → List SP → Prop) : Ending → World → Prop := fun e w' => ∃ v F', e = .returned v ∧ R v F' ∧ Sat b F' w'
/-- What a call owes. -/
def SC (P : Program) (f : FuncId) (args : List Value) (b : World) (F : List SP) (R : Value → List SP → Prop) : Prop := ∀ w, Sat b F w → Calls P f args.toArray w (PostS b R)
theorem SC.ent {R : Value → List SP → Prop} (h : SC P f args b G R) (he : Ent F G) : SC P f args b F R := fun w H => h w (H.ent he)
theorem SC.mono {R R' : Value → List SP → Prop} (h : SC P f args b F R) (hr : ∀ v F', R v F' → R' v F') : SC P f args b F R' := fun w H => (h w H).mono fun _ _ ⟨v, F', h1, h2, h3⟩ => ⟨v, F', h1, hr v F' h2, h3⟩
/-- What only reads. -/
theorem SC.ofExt {v : Value} (h : ∀ w, Sat b F w → Calls P f args.toArray w fun e w' => e = .returned v ∧ Ext w w') : SC P f args b F (fun u F' => u = v ∧ F' = F) :=
  fun w H => (h w H).mono fun _ _ ⟨h1, h2⟩ => ⟨v, F, h1, ⟨rfl, rfl⟩, H.ext h2⟩
theorem SC.ofEq {v : Value} (h : ∀ w, Sat b F w → Calls P f args.toArray w fun e w' => e = .returned v ∧ w = w') : SC P f args b F (fun u F' => u = v ∧ F' = F) :=
  fun w H => (h w H).mono fun _ _ ⟨h1, h2⟩ => ⟨v, F, h1, ⟨rfl, rfl⟩, h2 ▸ H⟩
/-- What makes a row. -/
theorem SC.ofMade {e sz n : Nat} {cs : List Value} (h : ∀ w, Sat b F w → Calls P f args.toArray w fun e' w' => ∃ v, e' = .returned v ∧ Mine w' w.heap.size e sz v n cs ∧ Ext w w') : SC P f args b F (fun u F' => F' = row e sz u n cs :: F) :=
  fun w H => (h w H).mono fun _ _ ⟨v, h1, h2, h3⟩ => ⟨v, _, h1, rfl, H.newOat h3 (Mine.oat h2)⟩
end
section
variable {P : Program} {ro : Option Nat} {N : Nat} {l rest : List Oper} {Q : Exit → Act → World → Prop} {E : List (Nat × Value)} {ds : List Deferred} {b : World} {F G : List SP}
  {d : Nat} {op : Op} {ty : TypeId} {pos : String} {aft : Array Edge} {g : Option (Nat × Bool)} {v : Value}
theorem so_call {f : FuncId} {args : List Value} {R : Value → List SP → Prop} (hg : wants l E g = some true) (hx : callOf E op = some (f, args)) [hb : Bodied P f] (hd : Nat.blt d N = true) (hs : SC P f args b F R)
    (h : ∀ v F', R v F' → SO P ro N l rest Q ((d, v) :: E) ds b F') : SO P ro N l (⟨some d, op, ty, pos, aft, g⟩ :: rest) Q E ds b F := ⟨fun w H => ow_call hg (ec_call hx) hd ((hs w H).mono fun _ _ ⟨v, F', h1, h2, h3⟩ => ⟨v, h1, (h v F' h2).1 _ h3⟩)⟩
theorem so_callE {f : FuncId} {args : List Value} (hg : wants l E g = some true) (hx : callOf E op = some (f, args)) [hb : Bodied P f] (hd : Nat.blt d N = true) (hs : SC P f args b F (fun u F' => u = v ∧ F' = F))
    (h : SO P ro N l rest Q ((d, v) :: E) ds b F) : SO P ro N l (⟨some d, op, ty, pos, aft, g⟩ :: rest) Q E ds b F :=
  so_call hg hx hd hs fun _ _ ⟨h1, h2⟩ => by subst h1; subst h2; exact h
end

/-! ## A function is entered and left -/
section
variable {P : Program} {tt : Nat → Option TI} [TT P tt] {N : Nat} {E : List (Nat × Value)} {b : World} {F G : List SP} {fn : Func} {R : Value → List SP → Prop} {f : FuncId} {c : Code} {args : List Value}
theorem enterS (hf : P.funcs[f]? = some fn) (hb : fn.body = some c) (hn : Nat.ble args.length fn.ntmps = true) {E : List (Nat × Value)} (hE : ents 0 args = E) (h : SW P none fn.ntmps c (bodyPost P fn (PostS b R)) E [] b F) : SC P f args b F R :=
  fun w H => enter hf hb hn (by rw [hE]; exact h.1 w H)
/-- What a list of results reads as. -/
inductive Res (tt : Nat → Option TI) (E : List (Nat × Value)) (F : List SP) : List ResultVar → List Value → Prop
  | nil : Res tt E F [] []
  | tmp {t : Nat} {v : Value} {rs : List ResultVar} {vs : List Value} (hv : look E t = some v) (h : Res tt E F rs vs) : Res tt E F (.tmp t :: rs) (v :: vs)
  | agg {t ct g t0 : Nat} {i : TI} {cs us : List Value} {rs : List ResultVar} {vs : List Value} (k : Nat) (hv : look E t = some (.pointer (some ⟨g, 0, none⟩))) (hF : nth F k = some (pt g t0 cs)) (ht : tt ct = some i) (hagg : aggT i.desc = true)
      (hs : segO cs 0 i.size = some us) (h : Res tt E F rs vs) : Res tt E F (.cell t ct :: rs) (.agg ⟨us⟩ :: vs)
  | whole {t ct g t0 : Nat} {i : TI} {cs : List Value} {rs : List ResultVar} {vs : List Value} (k : Nat) (hv : look E t = some (.pointer (some ⟨g, 0, none⟩))) (hF : nth F k = some (pt g t0 cs)) (ht : tt ct = some i) (hagg : aggT i.desc = true)
      (hs : cs.length = i.size) (h : Res tt E F rs vs) : Res tt E F (.cell t ct :: rs) (.agg ⟨cs⟩ :: vs)
  | cell {t ct g t0 : Nat} {i : TI} {cs : List Value} {v : Value} {rs : List ResultVar} {vs : List Value} (k : Nat) (hv : look E t = some (.pointer (some ⟨g, 0, none⟩))) (hF : nth F k = some (pt g t0 cs)) (ht : tt ct = some i) (hagg : aggT i.desc = false)
      (hs : nth cs 0 = some v) (h : Res tt E F rs vs) : Res tt E F (.cell t ct :: rs) (v :: vs)
def tupl : List Value → Value
  | [v] => v
  | vs => .tuple ⟨vs⟩
def rsem (tmps : Array Value) : ResultVar → Sem Value
  | .tmp t => pure (tmps.getD t undef)
  | .cell x t => do loadVar t (← asAddr (tmps.getD x undef))
theorem rsem_cell {a : Act} {t ct g : Nat} {u : Value} {w : World} (hv : a.tmps[t]? = some (.pointer (some ⟨g, 0, none⟩))) (h : (loadVar ct ⟨g, 0, none⟩).run P w = .ok u w) : (rsem a.tmps (.cell t ct)).run P w = .ok u w := by
  simp only [rsem, Array.getD_eq_getD_getElem?, hv, Option.getD_some, asAddr, Sem.run_bind, Sem.run_pure, Result.andThen, h]
theorem Res.run (P : Program) [TT P tt] {rs : List ResultVar} {vs : List Value} (h : Res tt E F rs vs) {w : World} (H : Sat b F w) {a : Act} (hk : Kn N E a) :
    (rs.mapM (rsem a.tmps)).run P w = .ok vs w := by
  have key : ∀ {r : ResultVar} {u : Value} {rs : List ResultVar} {vs : List Value}, (rsem a.tmps r).run P w = .ok u w → (rs.mapM (rsem a.tmps)).run P w = .ok vs w → ((r :: rs).mapM (rsem a.tmps)).run P w = .ok (u :: vs) w := by
    intro r u rs vs h1 h2
    simp only [List.mapM_cons, Sem.run_bind, Sem.run_pure, Result.andThen, h1, h2]
  induction h with
  | nil => rfl
  | tmp hv h ih => exact key (by simp only [rsem, Array.getD_eq_getD_getElem?, hk.2 _ _ hv, Option.getD_some, Sem.run_pure]) ih
  | agg k hv hF ht hagg hs h ih =>
    obtain ⟨h1, h2⟩ := segO_get hs
    exact key (rsem_cell (hk.2 _ _ hv) (loadVar_agg (P := P) (w := w) (off := 0) ht hagg (by rw [h1]; exact Nat.beq_refl _) (fun j hj => by rw [Nat.zero_add, (H.blk hF).cell, ← h2 j (by omega), Nat.zero_add]))) ih
  | whole k hv hF ht hagg hs h ih =>
    exact key (rsem_cell (hk.2 _ _ hv) (loadVar_agg (P := P) (w := w) (off := 0) ht hagg (by rw [hs]; exact Nat.beq_refl _) (fun j hj => by rw [Nat.zero_add, (H.blk hF).cell]))) ih
  | cell k hv hF ht hagg hs h ih =>
    have hc := ((H.blk hF).cell 0).trans ((nth_eq _ _).symm.trans hs)
    exact key (rsem_cell (hk.2 _ _ hv) (by simp [loadVar, run_isAgg ht, hagg, run_load, hc])) ih
theorem sn_ret {rs : List ResultVar} {vs : List Value} (hr : fn.results = ⟨rs⟩) (hv : Res tt E F rs vs) (he : Ent F G) (h : R (tupl vs) G) : SN N (bodyPost P fn (PostS b R)) .ret E [] b F := by
  constructor
  intro w H a hk hd
  refine ⟨hd, tupl vs, ?_, _, _, rfl, h, H.ent he⟩
  have h2 := hv.run P H hk
  have h3 : (results fn a.tmps).run P w = (do let vs ← (⟨rs⟩ : Array ResultVar).mapM (rsem a.tmps); pure (if h : vs.size = 1 then vs[0] else .tuple vs) : Sem Value).run P w := by
    simp only [results, hr]
    rfl
  rw [h3, List.mapM_toArray]
  simp only [Sem.run_bind, Sem.run_pure, Result.andThen, Sem.run_map, h2]
  match vs with
  | [] => rfl
  | [v] => rfl
  | _ :: _ :: _ => rfl
theorem sn_end {rs : List ResultVar} {vs : List Value} (hr : fn.results = ⟨rs⟩) (hv : Res tt E F rs vs) (he : Ent F G) (h : R (tupl vs) G) : SN N (bodyPost P fn (PostS b R)) .normal E [] b F := by
  constructor
  intro w H a hk hd
  exact (sn_ret hr hv he h).1 w H a hk hd
end
end Go.Eng
/- The engine, part sixteen: regions that draw their order, where memory is told piece by piece. Conditions: as part seven. -/
namespace Go.Eng
open Go Go.RowKit

section
variable {P : Program} {tt : Nat → Option TI} [TT P tt] {ro : Option Nat} {N : Nat} {fl : Oper → Bool} {l rest : List Oper} {k : Nat} {Q : Exit → Act → World → Prop} {E : List (Nat × Value)} {ds : List Deferred} {b : World} {F0 F G : List SP}
  {d : Nat} {op : Op} {ty : TypeId} {pos : String} {aft : Array Edge} {g : Option (Nat × Bool)} {v : Value}
theorem sw_draw (fl : Oper → Bool) (F0 : List SP) [hm : Mixed P] {id : Nat} (hok : okDraw fl l = true) (he : Ent F F0) (h : SD P fl ro N F0 l 0 l Q E ds b F) : SW P ro N (.region id l.toArray true) Q E ds b F := ⟨fun w H => cw_draw fl (Sat b F0) hok ((H.ext (Fr.drew w)).ent he) (h.1 w.drew (H.ext (Fr.drew w)))⟩
theorem sd_nil (h : SN N Q .normal E ds b F) : SD P fl ro N F0 l k [] Q E ds b F := ⟨fun w H => dw_nil (h.1 w H)⟩
theorem sd_fact {p : Prop} (hp : ∀ w, Sat b F w → p) (h : p → SD P fl ro N F0 l k rest Q E ds b F) : SD P fl ro N F0 l k rest Q E ds b F := ⟨fun w H => (h (hp w H)).1 w H⟩
theorem sd_skip (hg : wants l E g = some false) (hd : Nat.blt d N = true) (h : SD P fl ro N F0 l (k + 1) rest Q ((d, undef) :: E) ds b F) : SD P fl ro N F0 l k (⟨some d, op, ty, pos, aft, g⟩ :: rest) Q E ds b F := ⟨fun w H => dw_skip hg hd (h.1 w H)⟩
theorem sd_pu (hg : wants l E g = some true) (hx : Pu P E op ty v) (hf : fl ⟨some d, op, ty, pos, aft, g⟩ = true) (hd : Nat.blt d N = true) (h : SD P fl ro N F0 l (k + 1) rest Q ((d, v) :: E) ds b F) :
    SD P fl ro N F0 l k (⟨some d, op, ty, pos, aft, g⟩ :: rest) Q E ds b F := ⟨fun w H => dw_rd hg hf (fun W _ => hx W) hd (h.1 w H)⟩
theorem sd_rd (hg : wants l E g = some true) (hx : ∀ w, Sat b F0 w → Ex P E op ty w v w) (hf : fl ⟨some d, op, ty, pos, aft, g⟩ = true) (hd : Nat.blt d N = true) (h : SD P fl ro N F0 l (k + 1) rest Q ((d, v) :: E) ds b F) :
    SD P fl ro N F0 l k (⟨some d, op, ty, pos, aft, g⟩ :: rest) Q E ds b F := ⟨fun w H => dw_rd hg hf (fun W hW => hx W hW) hd (h.1 w H)⟩
theorem sd_ld {t g' t0 off : Nat} {x : Operand} {i : TI} {cs : List Value} (q : Nat) (hg : wants l E g = some true) (hop : op = .load t x) (ht : tt t = some i) (hagg : aggT i.desc = false) (hx : ev E x = some (.pointer (some ⟨g', off, none⟩))) (hF : nth F0 q = some (pt g' t0 cs)) (hv : nth cs off = some v)
    (hf : fl ⟨some d, op, ty, pos, aft, g⟩ = true) (hd : Nat.blt d N = true) (h : SD P fl ro N F0 l (k + 1) rest Q ((d, v) :: E) ds b F) : SD P fl ro N F0 l k (⟨some d, op, ty, pos, aft, g⟩ :: rest) Q E ds b F := by
  subst hop; exact sd_rd hg (ex_ld q ht hagg hx hF hv) hf hd h
theorem sd_ldA {t g' t0 off : Nat} {x : Operand} {i : TI} {cs vs : List Value} (q : Nat) (hg : wants l E g = some true) (hop : op = .load t x) (ht : tt t = some i) (hagg : aggT i.desc = true) (hx : ev E x = some (.pointer (some ⟨g', off, none⟩))) (hF : nth F0 q = some (pt g' t0 cs)) (hv : segO cs off i.size = some vs)
    (hf : fl ⟨some d, op, ty, pos, aft, g⟩ = true) (hd : Nat.blt d N = true) (h : SD P fl ro N F0 l (k + 1) rest Q ((d, .agg ⟨vs⟩) :: E) ds b F) : SD P fl ro N F0 l k (⟨some d, op, ty, pos, aft, g⟩ :: rest) Q E ds b F := by
  subst hop; exact sd_rd hg (ex_ldA q ht hagg hx hF hv) hf hd h
theorem sd_know (i : Nat) {u : Value} (v : Value) (hl : look E i = some u) (he : u = v) (h : SD P fl ro N F0 l k rest Q ((i, v) :: E) ds b F) : SD P fl ro N F0 l k rest Q E ds b F := ⟨fun w H => d_know i v hl he (h.1 w H)⟩
theorem sd_if (i : Nat) {p : Prop} [Decidable p] (hl : look E i = some (.bool (decide p))) (ht : p → SD P fl ro N F0 l k rest Q ((i, .bool true) :: E) ds b F) (hf : ¬ p → SD P fl ro N F0 l k rest Q ((i, .bool false) :: E) ds b F) : SD P fl ro N F0 l k rest Q E ds b F := ⟨fun w H => d_if i hl (fun h => (ht h).1 w H) (fun h => (hf h).1 w H)⟩
theorem sd_call {f : FuncId} {args : List Value} {R : Value → List SP → Prop} (hg : wants l E g = some true) (hf : fl ⟨some d, op, ty, pos, aft, g⟩ = false) (hx : callOf E op = some (f, args)) [hb : Bodied P f] (hd : Nat.blt d N = true) (hs : SC P f args b F R)
    (h : ∀ v F', R v F' → Ent F' F0 ∧ SD P fl ro N F0 l (k + 1) rest Q ((d, v) :: E) ds b F') : SD P fl ro N F0 l k (⟨some d, op, ty, pos, aft, g⟩ :: rest) Q E ds b F := ⟨fun w H => dw_call hg hf (ec_call hx) hd ((hs w H).mono fun _ w' ⟨v, F', h1, h2, h3⟩ => ⟨v, h1, h3.ent (h v F' h2).1, (h v F' h2).2.1 w' h3⟩)⟩
theorem sd_callE {f : FuncId} {args : List Value} (hg : wants l E g = some true) (hf : fl ⟨some d, op, ty, pos, aft, g⟩ = false) (hx : callOf E op = some (f, args)) [hb : Bodied P f] (hd : Nat.blt d N = true) (hs : SC P f args b F (fun u F' => u = v ∧ F' = F)) (he : Ent F F0)
    (h : SD P fl ro N F0 l (k + 1) rest Q ((d, v) :: E) ds b F) : SD P fl ro N F0 l k (⟨some d, op, ty, pos, aft, g⟩ :: rest) Q E ds b F :=
  sd_call hg hf hx hd hs fun _ _ ⟨h1, h2⟩ => by subst h1; subst h2; exact ⟨he, h⟩
theorem sd_wr (hg : wants l E g = some true) (hf : fl ⟨none, op, ty, pos, aft, g⟩ = false) (hx : ∀ w, Sat b F w → ∃ w', Eu P E op ty w w' ∧ Sat b G w') (he : Ent G F0) (h : SD P fl ro N F0 l (k + 1) rest Q E ds b G) :
    SD P fl ro N F0 l k (⟨none, op, ty, pos, aft, g⟩ :: rest) Q E ds b F := ⟨fun w H => by
  obtain ⟨w', h1, h2⟩ := hx w H
  exact dw_eu hg hf h1 (h2.ent he) (h.1 w' h2)⟩
theorem sd_st {t g' t0 off : Nat} {x y : Operand} {i : TI} {cs cs' : List Value} (q : Nat) (hg : wants l E g = some true) (hf : fl ⟨none, op, ty, pos, aft, g⟩ = false) (hop : op = .store t x y) (ht : tt t = some i) (hs : i.size = 1) (hx : ev E x = some (.pointer (some ⟨g', off, none⟩))) (hy : ev E y = some v) (hv : v.oneCell' = true) (hF : nth F q = some (pt g' t0 cs))
    (hc : stO cs off v = some cs') (hG : setF F q (pt g' t0 cs') = some G) (he : Ent G F0) (h : SD P fl ro N F0 l (k + 1) rest Q E ds b G) : SD P fl ro N F0 l k (⟨none, op, ty, pos, aft, g⟩ :: rest) Q E ds b F := by
  subst hop; exact sd_wr hg hf (eu_st q ht hs hx hy hv hF hc hG) he h
/-- A drawn region, cut in two behind its first n operations. -/
theorem sw_draw2 (fl : Oper → Bool) (n : Nat) (F1 F2 : List SP) [hm : Mixed P] {id : Nat} (hn : Nat.ble n l.length = true) (hok : okCut fl n l = true) (he : Ent F F1)
    (h : SD P fl ro N F1 l 0 (l.take n) (Q2 P fl ro l (Sat b F2) n Q) E ds b F) : SW P ro N (.region id l.toArray true) Q E ds b F := ⟨fun w H => cw_draw2 fl n (Sat b F1) (Sat b F2) hn hok ((H.ext (Fr.drew w)).ent he) (h.1 w.drew (H.ext (Fr.drew w)))⟩
theorem sn_draw2 {n : Nat} {F2 : List SP} (hn : Nat.ble n l.length = true) (he : Ent F F2) (h : SD P fl ro N F2 l n (l.drop n) Q E ds b F) : SN N (Q2 P fl ro l (Sat b F2) n Q) .normal E ds b F := ⟨fun w H => pn_draw2 hn (H.ent he) (h.1 w H)⟩
end
end Go.Eng
/- The engine, part seventeen: strings, bytes, cut arrays, what is cleared, the model's stand-ins. Conditions: as part two. -/
namespace Go.Eng
open Go Go.RowKit

section
variable {P : Program} {tt : Nat → Option TI} [TT P tt] {E : List (Nat × Value)} {op : Op} {ty : TypeId} {v : Value}
/-- A bound. -/
def bnd (E : List (Nat × Value)) (d : Int) : Option Operand → Option Int
  | none => some d
  | some y => match ev E y with
    | some (.int _ l) => some l
    | _ => none
/-- Texts; a cut array. -/
def pevs (tt : Nat → Option TI) (E : List (Nat × Value)) : Op → Option (Prop × Value)
  | .binOp .add _ x y _ => match ev E x, ev E y with
    | some (.string a), some (.string b) => some ((a.size : Int) + b.size ≤ 9223372036854775807, .string (a ++ b))
    | _, _ => none
  | .slice t x lo hi none => match tt t, ev E x with
    | some ⟨.array n e, _, _, _, _⟩, some (.pointer (some ⟨b, o, none⟩)) => match tt e, bnd E 0 lo, bnd E n hi with
      | some ⟨_, s, _, _, _⟩, some l, some h => some ((0 ≤ h ∧ h ≤ n) ∧ (0 ≤ l ∧ l ≤ h), .slice (some ⟨b, if n = l.toNat then o else o + l.toNat * s, none⟩) (h.toNat - l.toNat) (n - l.toNat))
      | _, _, _ => none
    | _, _ => none
  | _ => none
theorem sbound_run {P : Program} {w : World} {E : List (Nat × Value)} {ρ : Operand → Value} (hρ : ∀ x u, ev E x = some u → ρ x = u) {n : Nat} {l h : Int} {lo hi : Option Operand} (hl : bnd E 0 lo = some l) (hh : bnd E n hi = some h) (hc : (0 ≤ h ∧ h ≤ n) ∧ (0 ≤ l ∧ l ≤ h)) :
    (Instr.sliceBounds false n n (lo.map ρ) (hi.map ρ) none).run P w = .ok (l.toNat, h.toNat, n) w := by
  have h1 : ∀ {d : Int} {k : Int} {o : Option Operand}, bnd E d o = some k → (o = none ∧ d = k) ∨ ∃ y q, o = some y ∧ ρ y = .int q k := by
    intro d k o ho
    cases o with
    | none => left; simp [bnd] at ho; exact ⟨rfl, ho⟩
    | some y =>
      right
      simp only [bnd] at ho
      split at ho
      · rename_i q l' hy; simp only [Option.some.injEq] at ho; subst ho; exact ⟨y, _, rfl, hρ _ _ hy⟩
      · cases ho
  rcases h1 hl with ⟨rfl, rfl⟩ | ⟨y, q, rfl, hy⟩ <;> rcases h1 hh with ⟨rfl, rfl⟩ | ⟨y', q', rfl, hy'⟩
  · simp [Instr.sliceBounds]
  · simp [Instr.sliceBounds, hy', bound_ok (P := P) (k := q') (i := h) (y := n) hc.1]
  · simp [Instr.sliceBounds, hy, bound_ok (P := P) (k := q) (i := l) (y := n) (by omega)]
  · have : (0 : Int) ≤ l ∧ l ≤ (h.toNat : Nat) := by omega
    simp [Instr.sliceBounds, hy, hy', bound_ok (P := P) (k := q') (i := h) (y := n) hc.1, bound_ok (P := P) (k := q) (i := l) (y := h.toNat) this]
theorem pevs_sound {c : Prop} (h : pevs tt E op = some (c, v)) (hc : c) : Pu P E op ty v := by
  intro w ρ o hρ ho _
  unfold pevs at h
  split at h
  · split at h
    · rename_i a b h1 h2; simp only [Option.some.injEq, Prod.mk.injEq] at h; obtain ⟨rfl, rfl⟩ := h
      have : ¬ (((a.size + b.size : Nat) : Int) > IntKind.i64.max) := by
        have : IntKind.i64.max = 9223372036854775807 := rfl
        rw [this]; omega
      simp only [execOp, ho, hρ _ _ h1, hρ _ _ h2, Sem.run_bind, eqGuard_string, Result.andThen, binOp, Op.stringOp]
      rw [if_neg this]; rfl
    · cases h
  · rename_i t x lo hi
    split at h
    · rename_i n e s1 s2 z f b o' h1 h2
      split at h
      · rename_i ed s b1 z1 f1 l hh he hl hhh
        simp only [Option.some.injEq, Prod.mk.injEq] at h
        obtain ⟨rfl, rfl⟩ := h
        have hb := sbound_run (P := P) (w := w) hρ hl hhh hc
        simp only [execOp, ho, hρ _ _ h2, Instr.sliceAt, Sem.run_bind, TT.run_und h1 rfl, Result.andThen, Instr.sureAddr, Sem.run_pure, Option.map_none, hb, TT.run_size he]
        congr 4
        by_cases hn : n = l.toNat
        · simp [hn]
        · simp only [if_neg hn, Addr.add]
          split
          · rename_i h0; simp [h0]
          · rfl
      · cases h
    · cases h
  · cases h
end

/-! ## Rows of bytes -/
theorem VL.at {α : Type} {f : α → Value} {w : World} {bk off n c : Nat} {xs : List α} (h : VL f w (.slice (some ⟨bk, off, none⟩) n c) xs) (i : Nat) (hi : i < xs.length) : w.cell? ⟨bk, off + i, none⟩ = some (f xs[i]) := by
  obtain ⟨A, c', hv, _, _, _, hcell⟩ := h.op
  simp only [Value.slice.injEq] at hv
  obtain ⟨bk', off', hA, _, hc⟩ := hcell i hi
  obtain ⟨rfl, _, _⟩ := hv
  cases hA
  exact hc i hi
theorem VL.form {α : Type} {f : α → Value} {w : World} {v : Value} {xs : List α} (h : VL f w v xs) : ∃ A c, v = .slice A xs.length c ∧ xs.length ≤ c ∧ c ≤ 9223372036854775807 ∧ (A = none → c = 0) ∧ (0 < xs.length → ∃ bk off, A = some ⟨bk, off, none⟩) := by
  obtain ⟨A, c, h1, h2, h3, h4, hcell⟩ := h.op
  exact ⟨A, c, h1, h2, h3, h4, fun hp => by obtain ⟨bk, off, hA, _⟩ := hcell 0 hp; exact ⟨bk, off, hA⟩⟩
/-- A piece of what is read. -/
theorem VL.sub {α : Type} {f : α → Value} {w : World} {A A' : Option Addr} {n c c' l h : Nat} {xs : List α} (hv : VL f w (.slice A n c) xs) (hlh : l ≤ h) (hh : h ≤ xs.length) (hc : h - l ≤ c') (hm : c' ≤ 9223372036854775807) (hA : l < h → ∀ bk off, A = some ⟨bk, off, none⟩ → A' = some ⟨bk, off + l, none⟩) (hz : A' = none → c' = 0) :
    VL f w (.slice A' (h - l) c') ((xs.take h).drop l) := by
  obtain ⟨A0, c0, h1, h2, h3, h4, hcell⟩ := hv.op
  simp only [Value.slice.injEq] at h1
  obtain ⟨rfl, _, _⟩ := h1
  have hlen : ((xs.take h).drop l).length = h - l := by simp; omega
  refine ⟨A', c', by rw [hlen], by simp, by rw [hlen]; exact hc, by unfold maxLen; omega, hz, fun hp => ?_⟩
  rw [hlen] at hp
  obtain ⟨bk, off, hA0, hb, hcc⟩ := hcell l (by omega)
  refine ⟨bk, off + l, hA (by omega) bk off hA0, hb, fun j hj => ?_⟩
  simp only [List.length_map, hlen] at hj
  rw [Nat.add_assoc, hcc (l + j) (by omega)]
  rw [List.getElem?_map, List.getElem?_drop, List.getElem?_take, if_pos (by omega), List.getElem?_eq_getElem (by omega)]
  rfl
theorem run_bytesOf {P : Program} {w : World} {v : Value} {xs : List Int} (h : VL (Value.int .u8) w v xs) : (Extern.Bytes.bytesOf v).run P w = .ok (strOfNums xs) w := by
  obtain ⟨A, c, rfl, hn, hm, hz, hcell⟩ := h.op
  cases A with
  | none =>
    have : xs = [] := List.eq_nil_of_length_eq_zero (by have := hz rfl; omega)
    subst this; rfl
  | some a =>
    rcases Nat.eq_zero_or_pos xs.length with h0 | h0
    · have : xs = [] := List.eq_nil_of_length_eq_zero h0
      subst this; rfl
    · obtain ⟨bk, off, ha, hb, hc⟩ := hcell 0 h0
      cases ha
      have hl := Lib.run_loadBytesX (P := P) w xs ⟨bk, off, none⟩ .empty (fun j x hj => by
        have hjl : j < xs.length := (List.getElem?_eq_some_iff.1 hj).1
        have e : (⟨bk, off, none⟩ : Addr).add j = ⟨bk, off + j, none⟩ := by unfold Addr.add; split <;> simp_all
        rw [e, hc j hjl]
        rw [List.getElem?_eq_getElem hjl] at hj
        simp only [Option.some.injEq] at hj
        rw [hj])
      simp only [Extern.Bytes.bytesOf, hl]
      congr 1
      apply ByteArray.ext
      show (#[] : Array UInt8) ++ _ = _
      simp [strOfNums, Lib.bytesOf]
theorem run_bts {P : Program} {w : World} {v : Value} {xs : List Int} (h : VL (Value.int .u8) w v xs) : (Conv.bytesToString v).run P w = .ok (.string (strOfNums xs)) w := by
  obtain ⟨A, c, rfl, hn, hm, hz, hcell⟩ := h.op
  cases A with
  | none =>
    have : xs = [] := List.eq_nil_of_length_eq_zero (by have := hz rfl; omega)
    subst this; rfl
  | some a =>
    have hl : (loadCells a xs.length).run P w = .ok (xs.map (Value.int .u8)).toArray w := by
      rcases Nat.eq_zero_or_pos xs.length with h0 | h0
      · have : xs = [] := List.eq_nil_of_length_eq_zero h0
        subst this
        exact run_loadCells_list (P := P) w a [] (fun j u hj => by simp at hj)
      · obtain ⟨bk, off, ha, hb, hc⟩ := hcell 0 h0
        cases ha
        have := run_loadCells_list (P := P) w ⟨bk, off, none⟩ (xs.map (Value.int .u8)) (fun j u hj => by
          have hlt : j < xs.length := by have := (List.getElem?_eq_some_iff.1 hj).1; simpa using this
          have e : (⟨bk, off, none⟩ : Addr).add j = ⟨bk, off + j, none⟩ := by unfold Addr.add; split <;> simp_all
          rw [e, hc j hlt, ← hj, List.getElem?_map, List.getElem?_eq_getElem hlt]; rfl)
        rwa [List.length_map] at this
    rw [run_bytesToString w a xs.length c xs hl, foldl_push_bytes]
    congr 2
    apply ByteArray.ext
    show (#[] : Array UInt8) ++ _ = _
    simp [strOfNums]

section
variable {P : Program} {tt : Nat → Option TI} [TT P tt] {E : List (Nat × Value)} {ty : TypeId} {w : World}
/-- A text of bytes. -/
theorem ex_b2s {src dst e s1 s2 s3 s4 s5 s6 : Nat} {z1 z2 z3 : Value} {f1 f2 f3 : List (Nat × Nat)} {x : Operand} {v : Value} {xs : List Int} (hs : tt src = some ⟨.slice e, s1, s2, z1, f1⟩) (he : tt e = some ⟨.int .u8, s3, s4, z2, f2⟩) (hd : tt dst = some ⟨.string, s5, s6, z3, f3⟩)
    (hx : ev E x = some v) (hv : VL (Value.int .u8) w v xs) : Ex P E (.convert src dst x) ty w (.string (strOfNums xs)) w := by
  intro ρ o hρ ho _
  obtain ⟨A, c, hv', _⟩ := hv.op
  have := run_bts (P := P) hv
  subst hv'
  simp only [execOp, ho, hρ _ _ hx, Sem.run_bind]
  rw [run_convert_bytes_string w src dst e _ _ _ (TT.und _ _ hs rfl) (TT.und _ _ he rfl) (TT.und _ _ hd rfl), this]
  rfl
end

/-! ## Marked blocks (what a text was converted into) -/
def ptz (g t : Nat) (z : Nat × Nat) (cs : List Value) : SP := fun h => h g = some (.cells cs.toArray t z)
theorem Sat.ptz_vl {α : Type} {f : α → Value} {b : World} {F : List SP} {w : World} {k g t n c : Nat} {z : Nat × Nat} {cs : List Value} {xs : List α} (h : Sat b F w) (hk : nth F k = some (ptz g t z cs)) (hn : n = xs.length) (hc : n ≤ c) (hm : c ≤ 9223372036854775807) (hx : ∀ j, j < xs.length → cs[j]? = (xs.map f)[j]?) :
    VL f w (.slice (some ⟨g, 0, none⟩) n c) xs := by
  obtain ⟨h1, l, hA⟩ := h.mem.get hk
  have hh := l _ _ hA
  refine VL.mk hn hc (by unfold maxLen; omega) (ph_lt hh) fun j hj => ?_
  rw [Nat.zero_add, cell_of_row w g j _ t z hh]
  have := hx j hj
  rw [List.getElem?_map, List.getElem?_eq_getElem hj] at this
  simpa using this
theorem freeze_fr (w : World) (a : Addr) (n : Nat) : Fr (· = a.block) w (w.freeze a n) := by
  unfold World.freeze
  split
  · exact Fr.refl _ _
  · refine ⟨rfl, rfl, rfl, by simp, fun k hk hne => ?_⟩
    simp only [Array.getElem?_modify]
    rw [if_neg (fun h => hne h.symm)]

section
variable {P : Program} {tt : Nat → Option TI} [TT P tt] {ro : Option Nat} {N : Nat} {l rest : List Oper} {Q : Exit → Act → World → Prop} {E : List (Nat × Value)} {ds : List Deferred} {b : World} {F F0 G : List SP} {fl : Oper → Bool} {kk : Nat}
  {d : Nat} {op : Op} {ty : TypeId} {pos : String} {aft : Array Edge} {g : Option (Nat × Bool)} {v : Value}
theorem so_b2s {src dst e s1 s2 s3 s4 s5 s6 : Nat} {z1 z2 z3 : Value} {f1 f2 f3 : List (Nat × Nat)} {x : Operand} {xs : List Int} (hg : wants l E g = some true) (hop : op = .convert src dst x) (hs : tt src = some ⟨.slice e, s1, s2, z1, f1⟩) (he : tt e = some ⟨.int .u8, s3, s4, z2, f2⟩) (hd' : tt dst = some ⟨.string, s5, s6, z3, f3⟩)
    (hx : ev E x = some v) (hd : Nat.blt d N = true) (hv : ∀ w, Sat b F w → VL (Value.int .u8) w v xs) (h : SO P ro N l rest Q ((d, .string (strOfNums xs)) :: E) ds b F) : SO P ro N l (⟨some d, op, ty, pos, aft, g⟩ :: rest) Q E ds b F := by
  subst hop; exact so_rd hg (fun w H => ex_b2s hs he hd' hx (hv w H)) hd h
def strI (s : ByteArray) : List Int := s.data.toList.map fun x => (x.toNat : Int)
theorem strI_length (s : ByteArray) : (strI s).length = s.size := by rw [strI, List.length_map, Array.length_toList]; rfl
/-- Cells of a known block are cleared. -/
theorem eu_clear {t e g' t0 off n c s1 s2 s3 s4 : Nat} {z1 z : Value} {f1 f2 : List (Nat × Nat)} {dd : TypeDesc} {x : Operand} {cs : List Value} (k : Nat) (ht : tt t = some ⟨.slice e, s1, s2, z1, f1⟩) (he : tt e = some ⟨dd, s3, s4, z, f2⟩) (hz1 : z.oneCell' = true) (hx : ev E x = some (.slice (some ⟨g', off, none⟩) n c)) (hF : nth F k = some (pt g' t0 cs))
    (hfit : off + n ≤ cs.length) (hG : setF F k (pt g' t0 (spl cs off (List.replicate n z))) = some G) : ∀ w, Sat b F w → ∃ w' u, Ex P E (.call ⟨.builtin .clear, ⟨[x]⟩, ⟨[t]⟩⟩) ty w u w' ∧ Sat b G w' := fun w H => by
  have B := H.blk hF
  have hrun : ∃ w' u, (Builtin.clear_ #[t] ty #[.slice (some ⟨g', off, none⟩) n c]).run P w = .ok u w' ∧ Sat b G w' := by
    rcases Nat.eq_zero_or_pos n with h0 | h0
    · subst h0
      refine ⟨w, .tuple #[], ?_, ?_⟩
      · simp [Builtin.clear_, TT.run_und ht rfl]
      · have : spl cs off (List.replicate 0 z) = cs := by simp [spl]
        rw [this] at hG
        exact H.ent (ent_set k hF (fun _ h => h) hG)
    · have hzc : z.cells = #[z] := by cases z <;> first | rfl | (simp [Value.oneCell'] at hz1)
      have hrun := Lib.run_clear_slice (P := P) w t e ty z (TT.und _ _ ht rfl) (fun w => TT.run_zero he w) hzc hz1 g' off n c h0 (fun j hj => by rw [B.cell, List.getElem?_eq_getElem (by omega)]; rfl) (fun j hj => B.frozen _)
      have hst := run_storeCells_at P g' off t0 (List.replicate n z) 0 cs.toArray w B (by simpa using hfit) (by intro u hu; rw [List.eq_of_mem_replicate hu]; exact hz1)
      have hst2 := run_storeCells_cells (P := P) g' off (List.replicate n z) 0 w (by intro j hj; simp at hj; rw [Nat.add_zero, B.cell, List.getElem?_eq_getElem (by omega)]; rfl) (fun j hj => B.frozen _) (by intro u hu; rw [List.eq_of_mem_replicate hu]; exact hz1)
      simp only [Nat.add_zero] at hst hst2
      rw [hst] at hst2
      simp only [Result.ok.injEq, true_and] at hst2
      refine ⟨_, _, hrun, ?_⟩
      rw [← hst2]
      have e1 : (cs.take off ++ List.replicate n z ++ cs.drop (off + n)) = spl cs off (List.replicate n z) := by simp [spl]
      refine H.write hF (Fr.setRow _ _ _) ?_ hG
      have B2 := B.setRow (ds := spl cs off (List.replicate n z))
      simpa [spl] using B2
  obtain ⟨w', u, h1, h2⟩ := hrun
  refine ⟨w', u, ?_, h2⟩
  intro ρ o hρ ho hty
  subst hty
  simp only [execOp, ho, resolve, invoke, builtin, Sem.run_bind, Sem.run_pure, Result.andThen]
  have e1 : Array.map ρ #[x] = #[.slice (some ⟨g', off, none⟩) n c] := by simp [hρ _ _ hx]
  simp only [e1, h1]
/-- An operation that yields a value nobody asks for. -/
theorem so_exn (hg : wants l E g = some true) (hx : ∀ w, Sat b F w → ∃ w' u, Ex P E op ty w u w' ∧ Sat b G w') (h : SO P ro N l rest Q E ds b G) :
    SO P ro N l (⟨none, op, ty, pos, aft, g⟩ :: rest) Q E ds b F := ⟨fun w H a hk hds => by
  obtain ⟨w', u, h1, h2⟩ := hx w H
  unfold wpListIn
  rw [wanted_of (o := ⟨none, op, ty, pos, aft, g⟩) hk hg]
  simp only [if_true]
  have hr := h1 a.eval ⟨none, op, ty, pos, aft, g⟩ hk.hyp rfl rfl
  refine ⟨fun f _ => FR_fn ro f, ?_⟩
  rw [semAt_of_ok (by simp) hr]
  exact h.1 w' h2 _ hk.putNone hds⟩
theorem so_clear {t e g' t0 off n c s1 s2 s3 s4 : Nat} {z1 z : Value} {f1 f2 : List (Nat × Nat)} {dd : TypeDesc} {x : Operand} {cs : List Value} (k : Nat) (hg : wants l E g = some true) (hop : op = .call ⟨.builtin .clear, ⟨[x]⟩, ⟨[t]⟩⟩) (ht : tt t = some ⟨.slice e, s1, s2, z1, f1⟩) (he : tt e = some ⟨dd, s3, s4, z, f2⟩) (hz1 : z.oneCell' = true) (hx : ev E x = some (.slice (some ⟨g', off, none⟩) n c)) (hF : nth F k = some (pt g' t0 cs))
    (hG : setF F k (pt g' t0 (spl cs off (List.replicate n z))) = some G) (hfit : off + n ≤ cs.length) (h : SO P ro N l rest Q E ds b G) : SO P ro N l (⟨none, op, ty, pos, aft, g⟩ :: rest) Q E ds b F := by
  subst hop; exact so_exn hg (eu_clear k ht he hz1 hx hF hfit hG) h
/-- A function without a body: the model's stand-in. -/
theorem ex_extern {f : FuncId} {args : List Value} {w w' : World} (hx : callOf E op = some (f, args)) (hr : (callFunc f args.toArray).run P w = .ok (.value v) w') : Ex P E op ty w v w' := by
  intro ρ o hρ ho _
  unfold callOf at hx
  split at hx
  · rename_i fo xs at'
    split at hx
    · rename_i k fs cs vs' h1 h2
      simp only [Option.some.injEq, Prod.mk.injEq] at hx
      obtain ⟨rfl, rfl⟩ := hx
      have e1 := hρ _ _ h1
      have e4 : xs.map ρ = vs'.toArray := by
        apply Array.ext'
        simp [evs_map hρ _ _ h2]
      have hc : (⟨fs⟩ : Array Value) ++ vs'.toArray ++ cs = (fs ++ (vs' ++ cs.toList)).toArray := by
        apply Array.ext'
        simp
      simp only [execOp, ho, resolve, e1, e4, Deferred.ofValue, invoke, Sem.run_bind, Sem.run_pure, Result.andThen, hc, hr]
    · cases hx
  · cases hx
theorem so_extern {f : FuncId} {args : List Value} (hg : wants l E g = some true) (hx : callOf E op = some (f, args)) (hd : Nat.blt d N = true) (hr : ∀ w, Sat b F w → (callFunc f args.toArray).run P w = .ok (.value v) w) (h : SO P ro N l rest Q ((d, v) :: E) ds b F) :
    SO P ro N l (⟨some d, op, ty, pos, aft, g⟩ :: rest) Q E ds b F := so_rd hg (fun w H => ex_extern hx (hr w H)) hd h
theorem run_cmp {w : World} {f : FuncId} {fn : Func} (hf : P.funcs[f]? = some fn) (hname : (fn.name == "runtime.NumGoroutine") = false) (hb : fn.body.isNone = true) (hn : Extern.findNext fn = none) (he : Extern.find fn = some Extern.BytealgCompare.compare) {va vb : Value} {xs ys : List Int}
    (ha : VL (Value.int .u8) w va xs) (hb' : VL (Value.int .u8) w vb ys) : (callFunc f #[va, vb]).run P w = .ok (.value (.int .i64 (Lib.compareBytes (xs.map fun n => UInt8.ofNat n.toNat) (ys.map fun n => UInt8.ofNat n.toNat)))) w := by
  rw [run_callFunc_extern hf hname hb hn he]
  change Result.andThen (Sem.run P (do pure (goInt (Extern.BytealgCompare.cmp (← Extern.Bytes.bytesOf va) (← Extern.Bytes.bytesOf vb)))) w) _ = _
  simp only [Sem.run_bind, run_bytesOf ha, run_bytesOf hb', Result.andThen, Sem.run_pure]
  rw [Lib.cmp_eq]
  rfl
end
end Go.Eng
/- The engine, part eighteen: slices cut behind; small rules. Conditions: as part two. -/
namespace Go.Eng
open Go Go.RowKit

theorem ent_nil (F : List SP) : Ent F [] := fun _ _ => SatH.nil _
section
variable {P : Program} {tt : Nat → Option TI} [TT P tt] {E : List (Nat × Value)} {op : Op} {ty : TypeId} {v : Value}
/-- A slice cut behind. -/
def pevt (tt : Nat → Option TI) (E : List (Nat × Value)) : Op → Option (Prop × Value)
  | .slice t x none hi none => match tt t, ev E x with
    | some ⟨.slice e, _, _, _, _⟩, some (.slice a n c) => match tt e, hi with
      | some _, some z => match ev E z with
        | some (.int _ h) => some (0 ≤ h ∧ h ≤ c, .slice a h.toNat c)
        | _ => none
      | some _, none => some (True, .slice a n c)
      | none, _ => none
    | _, _ => none
  | _ => none
theorem pevt_sound {c : Prop} (h : pevt tt E op = some (c, v)) (hc : c) : Pu P E op ty v := by
  unfold pevt at h
  split at h
  · rename_i t x hi
    split at h
    · rename_i e s1 s2 z f a n c' h1 h2
      have key : ∀ k : Nat, (if c' = 0 then a else a.map fun x => x.add (0 * k)) = a := by
        intro k; split
        · rfl
        · cases a <;> simp [Addr.add]
      split at h
      · rename_i i z' he
        split at h
        · rename_i k hh hz
          simp only [Option.some.injEq, Prod.mk.injEq] at h
          obtain ⟨rfl, rfl⟩ := h
          have : pevc tt E (.slice t x none (some z') none) = some (0 ≤ hh ∧ hh ≤ c', .slice a hh.toNat c') := by
            obtain ⟨d, s, b, zz, ff⟩ := i
            simp only [pevc, h1, h2, he, hz, key, Nat.sub_zero]
          exact pevc_sound this hc
        · cases h
      · rename_i i he
        simp only [Option.some.injEq, Prod.mk.injEq] at h
        obtain ⟨rfl, rfl⟩ := h
        have : pevc tt E (.slice t x none none none) = some (True, .slice a n c') := by
          obtain ⟨d, s, b, zz, ff⟩ := i
          simp only [pevc, h1, h2, he, key, Nat.sub_zero]
        exact pevc_sound this hc
      · cases h
    · cases h
  · cases h
variable {ro : Option Nat} {N : Nat} {l rest : List Oper} {Q : Exit → Act → World → Prop} {ds : List Deferred} {b : World} {F F0 G : List SP} {fl : Oper → Bool} {kk : Nat}
  {d : Nat} {pos : String} {aft : Array Edge} {g : Option (Nat × Bool)}
/-- Reading is kept. -/
theorem up {p : World → Prop} (h : ∀ w, Sat b F w → p w) (he : Ent G F) : ∀ w, Sat b G w → p w := fun w H => h w (H.ent he)
end
end Go.Eng
/- The engine, part nineteen: arrays of numbers are compared; a literal that is converted; what is written into a row. Conditions: as part two. -/
namespace Go.Eng
open Go Go.RowKit

/-- An array of numbers. -/
class ArrI (P : Program) (t : Nat) (n : outParam Nat) (k : outParam IntKind) : Prop where
  ex : ∃ e i, P.underlying t = some (.array n e) ∧ P.underlying e = some (.int k) ∧ P.info? e = some i ∧ i.size = 1
theorem run_eqA {P : Program} {t n : Nat} {k : IntKind} [h : ArrI P t n k] {a b : List Int} (ha : a.length = n) (hb : b.length = n) (w : World) :
    (Op.equalIn 10000 t (.agg ⟨a.map (Value.int k)⟩) (.agg ⟨b.map (Value.int k)⟩)).run P w = .ok (decide (a = b)) w := by
  obtain ⟨e, i, h1, h2, h3, h4⟩ := h.ex
  rw [run_equalIn_array w 9999 _ _ h1 h3]
  have hc : P.cellsOf e = 1 := by simp [Program.cellsOf, h3, h4]
  have hp : P.plainKey e = true := by simp [Program.plainKey, h2]
  rw [hc]
  have key : ∀ m j, j + m = n → (Op.eqItems 9999 e 1 ⟨a.map (Value.int k)⟩ ⟨b.map (Value.int k)⟩ (List.range' j m)).run P w = .ok (decide (a.drop j = b.drop j)) w := by
    intro m
    induction m with
    | zero =>
      intro j hj
      have e1 : a.drop j = [] := List.drop_of_length_le (by omega)
      have e2 : b.drop j = [] := List.drop_of_length_le (by omega)
      simp [Op.eqItems, e1, e2]
    | succ m ih =>
      intro j hj
      have hja : j < a.length := by omega
      have hjb : j < b.length := by omega
      have p1 := run_part_plain (P := P) w hp (xs := ⟨a.map (Value.int k)⟩) (off := j) (v := .int k a[j]) (by simp [hja])
      have p2 := run_part_plain (P := P) w hp (xs := ⟨b.map (Value.int k)⟩) (off := j) (v := .int k b[j]) (by simp [hjb])
      simp only [List.range'_succ, Op.eqItems, Nat.mul_one, Sem.run_bind, p1, p2, Result.andThen_ok, run_equalIn_int w 9998 e k k _ _ h2]
      have ea : a.drop j = a[j] :: a.drop (j + 1) := List.drop_eq_getElem_cons hja
      have eb : b.drop j = b[j] :: b.drop (j + 1) := List.drop_eq_getElem_cons hjb
      by_cases heq : a[j] = b[j]
      · have : (a[j] == b[j]) = true := by simpa using heq
        simp only [this, Bool.not_true, Bool.false_eq_true, if_false]
        rw [ih (j + 1) (by omega), ea, eb]
        simp only [List.cons.injEq, heq, true_and]
      · have : (a[j] == b[j]) = false := by simpa using heq
        simp only [this, Bool.not_false, if_true, Sem.run_pure]
        rw [ea, eb, decide_eq_false (fun e => heq (List.cons.inj e).1)]
  have := key n 0 (by omega)
  simpa [List.range_eq_range'] using this

section
variable {P : Program} {tt : Nat → Option TI} [TT P tt] {ro : Option Nat} {N : Nat} {l rest : List Oper} {Q : Exit → Act → World → Prop} {E : List (Nat × Value)} {ds : List Deferred} {b : World} {F F0 G : List SP} {fl : Oper → Bool} {kk : Nat}
  {d : Nat} {op : Op} {ty : TypeId} {pos : String} {aft : Array Edge} {g : Option (Nat × Bool)} {v : Value}
theorem pu_eqI {t t' n : Nat} {k : IntKind} {x y : Operand} {as00 bs : List Int} [EqT P t] [ArrI P t n k] (hx : ev E x = some (.agg ⟨as00.map (Value.int k)⟩)) (hy : ev E y = some (.agg ⟨bs.map (Value.int k)⟩)) (ha : as00.length = n) (hb : bs.length = n) :
    Pu P E (.binOp .eql t x y t') ty (.bool (decide (as00 = bs))) := pu_eqA hx hy (run_eqA ha hb)
theorem pu_neI {t t' n : Nat} {k : IntKind} {x y : Operand} {as00 bs : List Int} [EqT P t] [ArrI P t n k] (hx : ev E x = some (.agg ⟨as00.map (Value.int k)⟩)) (hy : ev E y = some (.agg ⟨bs.map (Value.int k)⟩)) (ha : as00.length = n) (hb : bs.length = n) :
    Pu P E (.binOp .neq t x y t') ty (.bool (!decide (as00 = bs))) := pu_neA hx hy (run_eqA ha hb)

theorem ex_mark {t e g' t0 off n c s1 s2 s3 s4 : Nat} {z1 z2 : Value} {f1 f2 : List (Nat × Nat)} {x : Operand} {cs : List Value} (k : Nat) (ht : tt t = some ⟨.slice e, s1, s2, z1, f1⟩) (he : tt e = some ⟨.int .u8, s3, s4, z2, f2⟩) (hx : ev E x = some (.slice (some ⟨g', off, none⟩) n c)) (hF : nth F k = some (pt g' t0 cs))
    (hG : setF F k (ptz g' t0 (cs.length, cs.length + 1) cs) = some G) : ∀ w, Sat b F w → ∃ w', Ex P E (.convert t t x) ty w (.slice (some ⟨g', off, none⟩) n c) w' ∧ Sat b G w' := fun w H => by
  have B := H.blk hF
  have hsh : w.shape? g' = some (t0, cs.length) := by simp [World.shape?, show w.heap[g']? = _ from B]
  refine ⟨w.freeze ⟨g', cs.length, none⟩ 1, ?_, ?_⟩
  · intro ρ o hρ ho _
    simp [execOp, ho, hρ _ _ hx, convert, TT.run_und ht rfl, TT.run_und he rfl, markStringish, hsh, Result.andThen]
  · refine H.upd k hF (freeze_fr w ⟨g', cs.length, none⟩ 1) (fun h1 _ hA => ⟨fun i _ hi => by dsimp only at hi; subst hi; rw [show h1 _ = _ from hA]; simp, _, one_le (h := ph _) (o := .cells cs.toArray t0 (cs.length, cs.length + 1)) ?_, one_at g' _, fun i hi => .inl (by rw [one_ne hi, show h1 g' = _ from hA]; simp)⟩) hG
    show (w.freeze ⟨g', cs.length, none⟩ 1).heap[g']? = _
    have hB : w.heap[g']? = some (.cells cs.toArray t0 (0, 0)) := B
    simp [World.freeze, Array.getElem?_modify, hB]
theorem so_mark {t e g' t0 off n c s1 s2 s3 s4 : Nat} {z1 z2 : Value} {f1 f2 : List (Nat × Nat)} {x : Operand} {cs : List Value} (k : Nat) (hg : wants l E g = some true) (hop : op = .convert t t x) (ht : tt t = some ⟨.slice e, s1, s2, z1, f1⟩) (he : tt e = some ⟨.int .u8, s3, s4, z2, f2⟩) (hx : ev E x = some (.slice (some ⟨g', off, none⟩) n c)) (hF : nth F k = some (pt g' t0 cs))
    (hG : setF F k (ptz g' t0 (cs.length, cs.length + 1) cs) = some G) (hd : Nat.blt d N = true) (h : SO P ro N l rest Q ((d, .slice (some ⟨g', off, none⟩) n c) :: E) ds b G) : SO P ro N l (⟨some d, op, ty, pos, aft, g⟩ :: rest) Q E ds b F := by
  subst hop
  constructor
  intro w H
  obtain ⟨w', h1, h2⟩ := ex_mark (P := P) (ty := ty) k ht he hx hF hG w H
  exact ow_ex hg h1 hd (h.1 w' h2)
theorem evp_parts {E : List (Nat × Value)} : ∀ {parts : List (Nat × Operand)} {vs : List (Nat × Value)}, evp E parts = some vs → (parts.map fun p => ev E p.2) = vs.map (fun p => some p.2) ∧ parts.map (·.1) = vs.map (·.1)
  | [], vs, h => by simp [evp] at h; subst h; simp
  | (k, x) :: parts, vs, h => by
    simp only [evp] at h
    split at h
    · rename_i v r h1 h2
      cases h
      obtain ⟨i1, i2⟩ := evp_parts h2
      simp [h1, i1, i2]
    · cases h
/-- A slice literal in a drawn region. -/
theorem sd_lit (us : List Value) {t len e s1 s2 : Nat} {z1 : Value} {f1 : List (Nat × Nat)} {i : TI} {parts : List (Nat × Operand)} (hg : wants l E g = some true) (hf : fl ⟨some d, op, ty, pos, aft, g⟩ = false) (hop : op = .buildSlice t len ⟨parts⟩)
    (ht : tt t = some ⟨.slice e, s1, s2, z1, f1⟩) (he : tt e = some i) (hi : Nat.beq i.size 1 = true) (hp : evp E parts = some (enum 0 us)) (hl : (Nat.beq len us.length && Nat.ble len 16777216) = true) (h1 : us.all (·.oneCell') = true) (hd : Nat.blt d N = true) (hE : Ent F F0)
    (h : ∀ g', SD P fl ro N F0 l (kk + 1) rest Q ((d, .slice (some ⟨g', 0, none⟩) len len) :: E) ds b (pt g' e us :: F)) : SD P fl ro N F0 l kk (⟨some d, op, ty, pos, aft, g⟩ :: rest) Q E ds b F := by
  subst hop
  constructor
  intro w H
  have hi' := Nat.eq_of_beq_eq_true hi
  have hl' := hl
  simp only [Bool.and_eq_true] at hl'
  have hlen := Nat.eq_of_beq_eq_true hl'.1
  have hle := Nat.le_of_ble_eq_true hl'.2
  have hpp := evp_parts hp
  have hx := ex_buildSlice (P := P) (ty := ty) (w := w) ht he hpp.1 hpp.2 (len := len) (cells := us) (by rw [hi']; omega) (fun z hz => by
    rw [hi'] at hz ⊢
    have := fill_enum us 0 z (by omega) (fun u hu => List.all_eq_true.1 h1 u hu)
    simpa using this)
  have B := Blk.new w e us
  have H' := H.alloc (Fr.alloc w _) B (Nat.le_refl _)
  exact dw_ex hg hf hx ((H.ext (Fr.alloc w _)).ent hE) hd ((h w.heap.size).1 _ H')
end
end Go.Eng
/- The engine, part twenty: appending, boxing and storing in drawn regions; rows opened. Conditions: as part two. -/
namespace Go.Eng
open Go Go.RowKit

section
variable {P : Program} {tt : Nat → Option TI} [TT P tt] {ro : Option Nat} {N : Nat} {l rest : List Oper} {Q : Exit → Act → World → Prop} {E : List (Nat × Value)} {ds : List Deferred} {b : World} {F F0 G : List SP} {fl : Oper → Bool} {kk : Nat}
  {d : Nat} {op : Op} {ty : TypeId} {pos : String} {aft : Array Edge} {g : Option (Nat × Bool)} {v : Value}
theorem ex_append {t e n m sz s1 s2 : Nat} {z1 : Value} {f1 : List (Nat × Nat)} {i : TI} {x y : Operand} {vx : Value} {cs news : List Value} (k : Nat)
    (ht : tt t = some ⟨.slice e, s1, s2, z1, f1⟩) (he : tt e = some i) (hi : (Nat.beq i.zero.cells.size sz && Nat.beq i.size sz && Nat.ble i.bytes 2097152 && Nat.blt 0 sz) = true)
    (hx : ev E x = some v) (hy : ev E y = some vx) (hF : nth F k = some (row e sz v n cs)) (hsl : ∀ w, Sat b F w → SL w sz vx m news) (h1 : ∀ u ∈ news, u.oneCell' = true) (hn : n + m ≤ 67108864) {Gf : Value → List SP} (hG : ∀ v', setF F k (row e sz v' (n + m) (cs ++ news)) = some (Gf v')) :
    ∀ w, Sat b F w → ∃ v' w', Ex P E (.call ⟨.builtin .append, ⟨[x, y]⟩, ⟨[t, t]⟩⟩) ty w v' w' ∧ Sat b (Gf v') w' := by
  have hi' := hi
  simp only [Bool.and_eq_true] at hi'
  obtain ⟨⟨⟨h1', h2'⟩, h3'⟩, h4'⟩ := hi'
  have e1 := Nat.eq_of_beq_eq_true h1'; have e2 := Nat.eq_of_beq_eq_true h2'; have e3 := Nat.le_of_ble_eq_true h3'; have e4 : 0 < sz := Nat.le_of_ble_eq_true h4'
  subst e2
  intro w H
  have hbytes : (n + m) * i.bytes ≤ 140737488355328 := Nat.le_trans (Nat.mul_le_mul hn e3) (by decide)
  obtain ⟨v', w', hrun, ho, hf, hnb⟩ := run_appendS (P := P) (ty := ty) ht he e1 e4 (H.oat hF) (hsl w H) h1 (by unfold maxLen; omega) hbytes (Nat.zero_le _)
  refine ⟨v', w', ?_, ?_⟩
  · intro ρ o hρ hop' hty
    subst hty
    simp only [execOp, hop', resolve, invoke, builtin, Sem.run_bind, Sem.run_pure, Result.andThen]
    have e1 : Array.map ρ #[x, y] = #[v, vx] := by simp [hρ _ _ hx, hρ _ _ hy]
    simp only [e1, hrun]
  · obtain ⟨h3, l3, hA, hn3⟩ := oat_row ho
    refine H.upd k hF hf (fun h4 l4 hA4 => ?_) (hG v')
    have key : ∀ q, v.ownBlock = some q → h4 q ≠ none := by
      intro q hq
      rcases hA4.2 with ⟨rfl, _⟩ | ⟨g5, off5, cap5, cur5, rfl, hh5, _⟩
      · cases hq
      · simp only [Value.ownBlock, Option.some.injEq] at hq
        subst hq; rw [hh5]; simp
    exact ⟨fun q _ hq => key q hq, h3, l3, hA, fun q hq => (hnb q (hn3 q hq).2).imp (key q) id⟩
theorem sd_append {t e n m sz s1 s2 : Nat} {z1 : Value} {f1 : List (Nat × Nat)} {i : TI} {x y : Operand} {vx : Value} {cs news : List Value} (k : Nat) (hg : wants l E g = some true) (hf : fl ⟨some d, op, ty, pos, aft, g⟩ = false) (hd : Nat.blt d N = true)
    (hop : op = .call ⟨.builtin .append, ⟨[x, y]⟩, ⟨[t, t]⟩⟩) (ht : tt t = some ⟨.slice e, s1, s2, z1, f1⟩) (he : tt e = some i) (hi : (Nat.beq i.zero.cells.size sz && Nat.beq i.size sz && Nat.ble i.bytes 2097152 && Nat.blt 0 sz) = true)
    (hx : ev E x = some v) (hy : ev E y = some vx) (hF : nth F k = some (row e sz v n cs)) (hsl : ∀ w, Sat b F w → SL w sz vx m news) (h1 : ∀ u ∈ news, u.oneCell' = true) (hn : n + m ≤ 67108864) {Gf : Value → List SP} (hG : ∀ v', setF F k (row e sz v' (n + m) (cs ++ news)) = some (Gf v'))
    (hE : ∀ v', Ent (Gf v') F0) (h : ∀ v', SD P fl ro N F0 l (kk + 1) rest Q ((d, v') :: E) ds b (Gf v')) : SD P fl ro N F0 l kk (⟨some d, op, ty, pos, aft, g⟩ :: rest) Q E ds b F := by
  subst hop
  constructor
  intro w H
  obtain ⟨v', w', h2, h3⟩ := ex_append (P := P) (ty := ty) k ht he hi hx hy hF hsl h1 hn hG w H
  exact dw_ex hg hf h2 (h3.ent (hE v')) hd ((h v').1 w' h3)
end

/-- A row whose slice is not nil, or is. -/
theorem ent_row_nil {F : List SP} (e sz : Nat) (h0 : 0 = 0 * sz) : Ent F (row e sz (.slice none 0 0) 0 [] :: F) := by
  rintro m ⟨H, a, b, c⟩
  refine ⟨fun j => match j with | 0 => fun _ => none | j + 1 => H j, fun i => ?_, fun i j hij => ?_, fun i A hA => ?_⟩
  · cases i with
    | zero => exact fun _ _ e => by cases e
    | succ i => exact a i
  · cases i with
    | zero => exact fun _ => .inl rfl
    | succ i => cases j with
      | zero => exact fun _ => .inr rfl
      | succ j => exact b i j (by omega)
  · cases i with
    | zero => simp only [nth, Option.some.injEq] at hA; subst hA; exact ⟨by simp, .inl ⟨rfl, rfl⟩⟩
    | succ i => exact c i A hA
end Go.Eng
/- The engine, part twenty-one: several rules in one. Conditions: as part two. -/
namespace Go.Eng
open Go Go.RowKit

/-- What an operation yields without a condition. -/
def pevx (tt : Nat → Option TI) (E : List (Nat × Value)) (op : Op) : Option Value := match pev tt E op with
  | some v => some v
  | none => match pevn tt E op with
    | some v => some v
    | none => pevb tt E op
def step1 (tt : Nat → Option TI) (N : Nat) (l : List Oper) (E : List (Nat × Value)) : Oper → Option (Nat × Value)
  | ⟨some d, op, _, _, _, g⟩ => match Nat.blt d N, wants l E g with
    | true, some true => match pevx tt E op with
      | some v => some (d, v)
      | none => none
    | true, some false => some (d, undef)
    | _, _ => none
  | _ => none
/-- .. under a condition. -/
def pevy (tt : Nat → Option TI) (E : List (Nat × Value)) (op : Op) : Option (Prop × Value) := match pevt tt E op with
  | some v => some v
  | none => match pevc tt E op with
    | some v => some v
    | none => pevs tt E op
def step2 (tt : Nat → Option TI) (N : Nat) (l : List Oper) (E : List (Nat × Value)) : Oper → Option (Nat × Prop × Value)
  | ⟨some d, op, _, _, _, g⟩ => match Nat.blt d N, wants l E g with
    | true, some true => match pevy tt E op with
      | some (c, v) => some (d, c, v)
      | none => none
    | _, _ => none
  | _ => none
def ldv (tt : Nat → Option TI) (N : Nat) (l : List Oper) (E : List (Nat × Value)) : Oper → Option (Nat × Nat × Nat × Option Nat)
  | ⟨some d, .load t x, _, _, _, g⟩ => match Nat.blt d N, wants l E g with
    | true, some true => match tt t, ev E x with
      | some i, some (.pointer (some ⟨b, off, none⟩)) => match aggT i.desc with
        | true => some (d, b, off, some i.size)
        | false => some (d, b, off, none)
      | _, _ => none
    | _, _ => none
  | _ => none
def cellv (cs : List Value) (off : Nat) : Option Nat → Option Value
  | some n => match segO cs off n with
    | some vs => some (.agg ⟨vs⟩)
    | none => none
  | none => nth cs off
def stv (tt : Nat → Option TI) (l : List Oper) (E : List (Nat × Value)) : Oper → Option (Nat × Nat × Nat × Value)
  | ⟨none, .store t x y, _, _, _, g⟩ => match wants l E g with
    | some true => match tt t, ev E x, ev E y with
      | some i, some (.pointer (some ⟨b, off, none⟩)), some v => some (b, off, i.size, v)
      | _, _, _ => none
    | _ => none
  | _ => none
def cellst (cs : List Value) (off n : Nat) (v : Value) : Option (List Value) := match zlist v with
  | some vs => match Nat.beq vs.length n, vs.all (·.oneCell') with
    | true, true => splO cs off vs
    | _, _ => none
  | none => none

section
variable {P : Program} {tt : Nat → Option TI} [TT P tt] {ro : Option Nat} {N : Nat} {l rest : List Oper} {Q : Exit → Act → World → Prop} {E : List (Nat × Value)} {ds : List Deferred} {b : World} {F F0 G : List SP} {fl : Oper → Bool} {kk : Nat}
  {d : Nat} {v : Value} {o : Oper} {c : Prop} {g' off n t0 : Nat} {m : Option Nat} {cs cs' : List Value}
theorem pevx_sound {op : Op} {ty : TypeId} (h : pevx tt E op = some v) : Pu P E op ty v := by
  unfold pevx at h
  split at h
  · rename_i h1; cases h; exact pev_sound h1
  · split at h
    · rename_i h1; cases h; exact pevn_sound h1
    · exact pevb_sound h
theorem pevy_sound {op : Op} {ty : TypeId} (h : pevy tt E op = some (c, v)) (hc : c) : Pu P E op ty v := by
  unfold pevy at h
  split at h
  · rename_i h1; cases h; exact pevt_sound h1 hc
  · split at h
    · rename_i h1; cases h; exact pevc_sound h1 hc
    · exact pevs_sound h hc
theorem step1_inv (h : step1 tt N l E o = some (d, v)) : ∃ op ty pos aft g, o = ⟨some d, op, ty, pos, aft, g⟩ ∧ Nat.blt d N = true ∧ ((wants l E g = some true ∧ pevx tt E op = some v) ∨ (wants l E g = some false ∧ v = undef)) := by
  unfold step1 at h
  split at h
  · split at h
    · rename_i h1 h2
      split at h
      · rename_i h3
        simp only [Option.some.injEq, Prod.mk.injEq] at h
        obtain ⟨rfl, rfl⟩ := h
        exact ⟨_, _, _, _, _, rfl, h1, .inl ⟨h2, h3⟩⟩
      · cases h
    · rename_i h1 h2
      simp only [Option.some.injEq, Prod.mk.injEq] at h
      obtain ⟨rfl, rfl⟩ := h
      exact ⟨_, _, _, _, _, rfl, h1, .inr ⟨h2, rfl⟩⟩
    · cases h
  · cases h
theorem step2_inv (h : step2 tt N l E o = some (d, c, v)) : ∃ op ty pos aft g, o = ⟨some d, op, ty, pos, aft, g⟩ ∧ Nat.blt d N = true ∧ wants l E g = some true ∧ pevy tt E op = some (c, v) := by
  unfold step2 at h
  split at h
  · split at h
    · rename_i h1 h2
      split at h
      · rename_i h3
        simp only [Option.some.injEq, Prod.mk.injEq] at h
        obtain ⟨rfl, rfl, rfl⟩ := h
        exact ⟨_, _, _, _, _, rfl, h1, h2, h3⟩
      · cases h
    · cases h
  · cases h
theorem ldv_inv (h : ldv tt N l E o = some (d, g', off, m)) : ∃ t x ty pos aft g i, o = ⟨some d, .load t x, ty, pos, aft, g⟩ ∧ Nat.blt d N = true ∧ wants l E g = some true ∧ tt t = some i ∧ ev E x = some (.pointer (some ⟨g', off, none⟩)) ∧
    ((aggT i.desc = true ∧ m = some i.size) ∨ (aggT i.desc = false ∧ m = none)) := by
  unfold ldv at h
  split at h
  · split at h
    · rename_i h1 h2
      split at h
      · rename_i h3 h4
        split at h
        · rename_i h5
          simp only [Option.some.injEq, Prod.mk.injEq] at h
          obtain ⟨rfl, rfl, rfl, rfl⟩ := h
          exact ⟨_, _, _, _, _, _, _, rfl, h1, h2, h3, h4, .inl ⟨h5, rfl⟩⟩
        · rename_i h5
          simp only [Option.some.injEq, Prod.mk.injEq] at h
          obtain ⟨rfl, rfl, rfl, rfl⟩ := h
          exact ⟨_, _, _, _, _, _, _, rfl, h1, h2, h3, h4, .inr ⟨h5, rfl⟩⟩
      · cases h
    · cases h
  · cases h
theorem so_1 (h1 : step1 tt N l E o = some (d, v)) (h : SO P ro N l rest Q ((d, v) :: E) ds b F) : SO P ro N l (o :: rest) Q E ds b F := by
  obtain ⟨op, ty, pos, aft, g, rfl, h2, ⟨h3, h4⟩ | ⟨h3, rfl⟩⟩ := step1_inv h1
  · exact so_pu h3 (pevx_sound h4) h2 h
  · exact so_skip h3 h2 h
theorem so_2 (h1 : step2 tt N l E o = some (d, c, v)) (hc : c) (h : SO P ro N l rest Q ((d, v) :: E) ds b F) : SO P ro N l (o :: rest) Q E ds b F := by
  obtain ⟨op, ty, pos, aft, g, rfl, h2, h3, h4⟩ := step2_inv h1
  exact so_pu h3 (pevy_sound h4 hc) h2 h
theorem sd_1 (h1 : step1 tt N l E o = some (d, v)) (hf : fl o = true ∨ wants l E o.guard = some false) (h : SD P fl ro N F0 l (kk + 1) rest Q ((d, v) :: E) ds b F) : SD P fl ro N F0 l kk (o :: rest) Q E ds b F := by
  obtain ⟨op, ty, pos, aft, g, rfl, h2, ⟨h3, h4⟩ | ⟨h3, rfl⟩⟩ := step1_inv h1
  · rcases hf with hf | hf
    · exact sd_pu h3 (pevx_sound h4) hf h2 h
    · rw [h3] at hf; cases hf
  · exact sd_skip h3 h2 h
theorem sd_2 (h1 : step2 tt N l E o = some (d, c, v)) (hf : fl o = true) (hc : c) (h : SD P fl ro N F0 l (kk + 1) rest Q ((d, v) :: E) ds b F) : SD P fl ro N F0 l kk (o :: rest) Q E ds b F := by
  obtain ⟨op, ty, pos, aft, g, rfl, h2, h3, h4⟩ := step2_inv h1
  exact sd_pu h3 (pevy_sound h4 hc) hf h2 h
theorem ld_ex {t : Nat} {x : Operand} {i : TI} {ty : TypeId} (k : Nat) (ht : tt t = some i) (hx : ev E x = some (.pointer (some ⟨g', off, none⟩))) (hm : (aggT i.desc = true ∧ m = some i.size) ∨ (aggT i.desc = false ∧ m = none)) (hF : nth F k = some (pt g' t0 cs)) (hv : cellv cs off m = some v) :
    ∀ w, Sat b F w → Ex P E (.load t x) ty w v w := by
  rcases hm with ⟨h1, rfl⟩ | ⟨h1, rfl⟩
  · simp only [cellv] at hv
    split at hv
    · rename_i vs hs
      simp only [Option.some.injEq] at hv
      subst hv
      exact ex_ldA k ht h1 hx hF hs
    · cases hv
  · exact ex_ld k ht h1 hx hF hv
theorem so_l (k : Nat) (h1 : ldv tt N l E o = some (d, g', off, m)) (hF : nth F k = some (pt g' t0 cs)) (hv : cellv cs off m = some v) (h : SO P ro N l rest Q ((d, v) :: E) ds b F) : SO P ro N l (o :: rest) Q E ds b F := by
  obtain ⟨t, x, ty, pos, aft, g, i, rfl, h2, h3, h4, h5, h6⟩ := ldv_inv h1
  exact so_rd h3 (ld_ex k h4 h5 h6 hF hv) h2 h
theorem sd_l (k : Nat) (h1 : ldv tt N l E o = some (d, g', off, m)) (hF : nth F0 k = some (pt g' t0 cs)) (hv : cellv cs off m = some v) (hf : fl o = true) (h : SD P fl ro N F0 l (kk + 1) rest Q ((d, v) :: E) ds b F) : SD P fl ro N F0 l kk (o :: rest) Q E ds b F := by
  obtain ⟨t, x, ty, pos, aft, g, i, rfl, h2, h3, h4, h5, h6⟩ := ldv_inv h1
  exact sd_rd h3 (ld_ex k h4 h5 h6 hF hv) hf h2 h
theorem stv_inv (h : stv tt l E o = some (g', off, n, v)) : ∃ t x y ty pos aft g i, o = ⟨none, .store t x y, ty, pos, aft, g⟩ ∧ wants l E g = some true ∧ tt t = some i ∧ ev E x = some (.pointer (some ⟨g', off, none⟩)) ∧ ev E y = some v ∧ n = i.size := by
  unfold stv at h
  split at h
  · split at h
    · rename_i h2
      split at h
      · rename_i h3 h4 h5
        simp only [Option.some.injEq, Prod.mk.injEq] at h
        obtain ⟨rfl, rfl, rfl, rfl⟩ := h
        exact ⟨_, _, _, _, _, _, _, _, rfl, h2, h3, h4, h5, rfl⟩
      · cases h
    · cases h
  · cases h
theorem cellst_inv (h : cellst cs off n v = some cs') : ∃ vs, zlist v = some vs ∧ Nat.beq vs.length n = true ∧ vs.all (·.oneCell') = true ∧ splO cs off vs = some cs' := by
  unfold cellst at h
  split at h
  · split at h
    · rename_i h1 _ _ h2 h3; exact ⟨_, h1, h2, h3, h⟩
    · cases h
  · cases h
theorem so_s1 (k : Nat) (h1 : stv tt l E o = some (g', off, n, v)) (hF : nth F k = some (pt g' t0 cs)) (hc : cellst cs off n v = some cs') (hG : setF F k (pt g' t0 cs') = some G) (h : SO P ro N l rest Q E ds b G) : SO P ro N l (o :: rest) Q E ds b F := by
  obtain ⟨t, x, y, ty, pos, aft, g, i, rfl, h3, h4, h5, h6, rfl⟩ := stv_inv h1
  obtain ⟨vs, c1, c2, c3, c4⟩ := cellst_inv hc
  exact so_stA k h3 rfl h4 h5 h6 c1 c2 c3 hF c4 hG h
end
end Go.Eng
/- The engine, part twenty-two: what a row says of an argument that is an array of numbers. Conditions: as part two. -/
namespace Go.Eng
open Go Go.RowKit Go.ChangeShapes Go.WideShapes Go.WideMaps

section
variable {H : Type} {enc : TypeId × Value → H} {P : Program} {W : World} {base b0 : Nat} {spare : Nat → Bool} {held : Bool} {r : Reach}
end
end Go.Eng
/- The engine, part twenty-three: maps of the program's own, known whole. Conditions: as part two. -/
namespace Go.Eng
open Go Go.RowKit Go.MapKept
open Go.ChangeMaps (setBlock heap_setBlock_same heap_setBlock_other)

section
variable {α : Type}
end
section
variable {P : Program} {k g : Nat} {α : Type} {K : α → Value} {ok : α → Prop} {l : List (α × Value)} {a : α} {v : Value} {w : World} {es : Array MapEntry} {clock : Nat}

end

section
variable {P : Program} {tt : Nat → Option TI} [TT P tt] {ro : Option Nat} {N : Nat} {l rest : List Oper} {Q : Exit → Act → World → Prop} {E : List (Nat × Value)} {ds : List Deferred} {b : World} {F F0 G : List SP} {fl : Oper → Bool} {kk : Nat}
  {d : Nat} {op : Op} {ty : TypeId} {pos : String} {aft : Array Edge} {g : Option (Nat × Bool)} {v : Value}
  {α : Type} {K : α → Value} {ok : α → Prop} {L : List (α × Value)} {a : α}

end
end Go.Eng
/- The engine, part twenty-four: a map is gone through; interfaces are asked; methods are called through them. Conditions: as part two. -/
namespace Go.Eng
open Go Go.RowKit Go.MapKept
open Go.ChangeMaps (setBlock heap_setBlock_same heap_setBlock_other)

section
variable {P : Program} {tt : Nat → Option TI} [TT P tt]
end

section
variable {P : Program} {tt : Nat → Option TI} [TT P tt] {ro : Option Nat} {N : Nat} {l rest : List Oper} {Q : Exit → Act → World → Prop} {E : List (Nat × Value)} {ds : List Deferred} {b : World} {F F0 G : List SP} {fl : Oper → Bool} {kk : Nat}
  {d : Nat} {op : Op} {ty : TypeId} {pos : String} {aft : Array Edge} {g : Option (Nat × Bool)} {v : Value}
/-! ## A map is gone through -/
variable {α : Type} {K : α → Value} {ok : α → Prop} {L R : List (α × Value)} {c : Option (α × Value)}
end
end Go.Eng
/- The engine, part twenty-five: arrays of numbers as keys of maps; pieces in another order. Conditions: as part two. -/
namespace Go.Eng
open Go Go.RowKit Go.WideMaps

/-! ## Pieces in another order -/
open Classical in
theorem ent_cons {A : SP} {F G : List SP} (e : Ent F G) : Ent (A :: F) (A :: G) := by
  rintro m ⟨H, a, b, c⟩
  let U : PH := fun i => if x : ∃ j, H (j + 1) i ≠ none then H (x.choose + 1) i else none
  have hU : ∀ j, le (H (j + 1)) U := by
    intro j i o ho
    have x : ∃ j, H (j + 1) i ≠ none := ⟨j, by rw [ho]; simp⟩
    have e1 : U i = H (x.choose + 1) i := dif_pos x
    rw [e1]
    have hs := x.choose_spec
    by_cases hjj : x.choose = j
    · rw [hjj]; exact ho
    · rcases b (x.choose + 1) (j + 1) (by omega) i with h | h
      · exact absurd h hs
      · rw [ho] at h; cases h
  have hUm : le U m := by
    intro i o ho
    by_cases x : ∃ j, H (j + 1) i ≠ none
    · have e1 : U i = H (x.choose + 1) i := dif_pos x
      rw [e1] at ho; exact a _ i o ho
    · have e1 : U i = none := dif_neg x
      rw [e1] at ho; cases ho
  have hU0 : apt (H 0) U := by
    intro i
    by_cases x : ∃ j, H (j + 1) i ≠ none
    · left
      rcases b 0 (x.choose + 1) (by omega) i with h | h
      · exact h
      · exact absurd h x.choose_spec
    · exact .inr (dif_neg x)
  obtain ⟨K, ka, kb, kc⟩ := e U ⟨fun j => H (j + 1), hU, fun i j hij => b _ _ (by omega), fun i B hB => c (i + 1) B hB⟩
  have h0 : ∀ j, apt (H 0) (K j) := fun j i => by
    rcases hU0 i with h | h
    · exact .inl h
    · right
      cases hk : K j i with
      | none => rfl
      | some o => rw [ka j i o hk] at h; cases h
  refine ⟨fun j => match j with | 0 => H 0 | j + 1 => K j, fun i => ?_, fun i j hij => ?_, fun i B hB => ?_⟩
  · cases i with
    | zero => exact a 0
    | succ i => exact (ka i).trans hUm
  · cases i with
    | zero => cases j with
      | zero => exact absurd rfl hij
      | succ j => exact h0 j
    | succ i => cases j with
      | zero => exact (h0 i).symm
      | succ j => exact kb i j (by omega)
  · cases i with
    | zero => exact c 0 B hB
    | succ i => exact kc i B hB
theorem ent_perm {F G : List SP} (h : F.Perm G) : Ent F G := by
  induction h with
  | nil => exact Ent.refl _
  | cons _ _ ih => exact ent_cons ih
  | swap x y l => exact ent_keep 2 [1, 0] rfl rfl
  | trans _ _ i1 i2 => exact i1.trans i2
/-- Some of many pieces taken out, and put back. -/
theorem ent_out {A B C F : List SP} (h : A.Perm (B ++ C)) : Ent (all A :: F) (B ++ all C :: F) := by
  refine ent_open.trans ((ent_perm (h.append_right F)).trans ?_)
  rw [List.append_assoc]
  clear h
  induction B with
  | nil => exact (ent_close : Ent (C ++ F) (all C :: F))
  | cons x B ih => exact ent_cons ih
theorem ent_in {A B C F : List SP} (h : A.Perm (B ++ C)) : Ent (B ++ all C :: F) (all A :: F) := by
  refine Ent.trans ?_ ((ent_perm (h.symm.append_right F)).trans ent_close)
  rw [List.append_assoc]
  clear h
  induction B with
  | nil => exact (ent_open : Ent (all C :: F) (C ++ F))
  | cons x B ih => exact ent_cons ih
theorem SC.conv {P : Program} {f : Nat} {args : List Value} {b : World} {F G : List SP} {R R' : Value → List SP → Prop} (h : SC P f args b G R) (he : Ent F G) (hr : ∀ v G', R v G' → ∃ F', R' v F' ∧ Ent G' F') : SC P f args b F R' := fun w H =>
  (h w (H.ent he)).mono fun _ _ ⟨v, G', h1, h2, h3⟩ => by
    obtain ⟨F', h4, h5⟩ := hr v G' h2
    exact ⟨v, F', h1, h4, h3.ent h5⟩
/-- What leaves all as it was, with the pieces in another order. -/
theorem SC.at {P : Program} {f : Nat} {args : List Value} {b : World} {F G : List SP} {v : Value} (h : SC P f args b G (fun u G' => u = v ∧ G' = G)) (he : Ent F G) (hb : Ent G F) : SC P f args b F (fun u F' => u = v ∧ F' = F) :=
  h.conv he fun _ _ ⟨h1, h2⟩ => ⟨F, ⟨h1, rfl⟩, h2 ▸ hb⟩
section
variable {P : Program} {tt : Nat → Option TI} [TT P tt] {ro : Option Nat} {N : Nat} {l rest : List Oper} {Q : Exit → Act → World → Prop} {E : List (Nat × Value)} {ds : List Deferred} {b : World} {F F0 G : List SP} {fl : Oper → Bool} {kk : Nat}
  {d : Nat} {op : Op} {ty : TypeId} {pos : String} {aft : Array Edge} {g : Option (Nat × Bool)} {v : Value}
  {α : Type} [DecidableEq α] {K : α → Value} {ok : α → Prop} {L : List (α × Value)} {a : α}
end
end Go.Eng
