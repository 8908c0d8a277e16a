/- Stable sorting, part one: the plain law. Things with their places; sorted pieces joined. Conditions: the order is one of classes. -/
import Derived.Test.YtaglpaoipdmboaaGreatL4
import Derived.Test.YtaglpaoipdmboaaGreatL5
import Derived.Test.YtaglpaoipdmboaaGreatL3
namespace Go.Proofs.YtaglpaoipdmboaaGreat

/-- An order of classes. -/
structure SWO {β : Type} (lt : β → β → Bool) (ok : β → Prop) : Prop where
  asy : ∀ x y, ok x → ok y → lt x y = true → lt y x = false
  ntr : ∀ x y z, ok x → ok y → ok z → lt x y = false → lt y z = false → lt x z = false
section
variable {β : Type} {lt : β → β → Bool} {ok : β → Prop}
theorem SWO.tr (h : SWO lt ok) {x y z : β} (hx : ok x) (hy : ok y) (hz : ok z) (h1 : lt x y = true) (h2 : lt y z = true) : lt x z = true := by
  cases h3 : lt x z with
  | true => rfl
  | false =>
    have := h.ntr x z y hx hz hy h3 (h.asy y z hy hz h2)
    rw [h1] at this; cases this
/-- Ahead, or alike and ahead in place. -/
def tl (lt : β → β → Bool) (x y : Nat × β) : Prop := lt x.2 y.2 = true ∨ (lt y.2 x.2 = false ∧ x.1 < y.1)
theorem tl_of {x y : Nat × β} (h : lt y.2 x.2 = false) (hp : x.1 < y.1) : tl lt x y := .inr ⟨h, hp⟩
theorem tl_trans (h : SWO lt ok) {x y z : Nat × β} (hx : ok x.2) (hy : ok y.2) (hz : ok z.2) (h1 : tl lt x y) (h2 : tl lt y z) : tl lt x z := by
  rcases h1 with h1 | ⟨h1, p1⟩ <;> rcases h2 with h2 | ⟨h2, p2⟩
  · exact .inl (h.tr hx hy hz h1 h2)
  · cases h3 : lt x.2 z.2 with
    | true => exact .inl h3
    | false =>
      have := h.ntr _ _ _ hx hz hy h3 h2
      rw [h1] at this; cases this
  · cases h3 : lt x.2 z.2 with
    | true => exact .inl h3
    | false =>
      have := h.ntr _ _ _ hy hx hz h1 h3
      rw [h2] at this; cases this
  · exact .inr ⟨h.ntr _ _ _ hz hy hx h2 h1, by omega⟩
abbrev Srt (lt : β → β → Bool) (l : List (Nat × β)) : Prop := l.Pairwise (tl lt)
def Oks (ok : β → Prop) (l : List (Nat × β)) : Prop := ∀ x ∈ l, ok x.2
/-- What stands ahead of the first one of a sorted piece stands ahead of it all. -/
theorem all_ge (h : SWO lt ok) {x t : Nat × β} {T : List (Nat × β)} (hx : ok x.2) (ho : Oks ok (t :: T)) (hs : Srt lt (t :: T)) (h1 : tl lt x t) : ∀ y ∈ t :: T, tl lt x y := by
  intro y hy
  rcases List.mem_cons.1 hy with rfl | hy
  · exact h1
  · exact tl_trans h hx (ho t List.mem_cons_self) (ho y (List.mem_cons_of_mem _ hy)) h1 ((List.pairwise_cons.1 hs).1 y hy)
theorem all_le (h : SWO lt ok) {x t : Nat × β} {S : List (Nat × β)} (hx : ok x.2) (ho : Oks ok (S ++ [t])) (hs : Srt lt (S ++ [t])) (h1 : tl lt t x) : ∀ y ∈ S ++ [t], tl lt y x := by
  intro y hy
  rcases List.mem_append.1 hy with hy' | hy'
  · exact tl_trans h (ho y hy) (ho t (by simp)) hx ((List.pairwise_append.1 hs).2.2 y hy' t (by simp)) h1
  · rw [List.mem_singleton.1 hy']; exact h1
/-- Laid between. -/
theorem srt_mid (h : SWO lt ok) {x : Nat × β} {S T : List (Nat × β)} (ho : Oks ok (S ++ x :: T)) (hs : Srt lt (S ++ T)) (h1 : ∀ s ∈ S, tl lt s x) (h2 : ∀ t ∈ T, tl lt x t) : Srt lt (S ++ x :: T) := by
  obtain ⟨a, b, c⟩ := List.pairwise_append.1 hs
  refine List.pairwise_append.2 ⟨a, List.pairwise_cons.2 ⟨h2, b⟩, fun s hs' t ht => ?_⟩
  rcases List.mem_cons.1 ht with rfl | ht
  · exact h1 s hs'
  · exact c s hs' t ht
/-- Two sorted pieces, each cut in two: the lesser parts stand ahead of the greater parts. -/
theorem cut_lt (h : SWO lt ok) {L1 L2 R1 R2 : List (Nat × β)} (hL : Srt lt (L1 ++ L2)) (hR : Srt lt (R1 ++ R2)) (ho : Oks ok ((L1 ++ L2) ++ (R1 ++ R2)))
    (h1 : ∀ x R' y L', R1 = R' ++ [x] → L2 = y :: L' → tl lt x y) (h2 : ∀ x L' y R', L1 = L' ++ [x] → R2 = y :: R' → tl lt x y) : ∀ x ∈ L1 ++ R1, ∀ y ∈ L2 ++ R2, tl lt x y := by
  obtain ⟨l1, l2, l3⟩ := List.pairwise_append.1 hL
  obtain ⟨r1, r2, r3⟩ := List.pairwise_append.1 hR
  have hoo : ∀ z, z ∈ L1 ∨ z ∈ L2 ∨ z ∈ R1 ∨ z ∈ R2 → ok z.2 := fun z hz => ho z (by simp only [List.mem_append]; rcases hz with hz | hz | hz | hz <;> simp [hz])
  intro x hx y hy
  rcases List.mem_append.1 hx with hx | hx <;> rcases List.mem_append.1 hy with hy | hy
  · exact l3 x hx y hy
  · -- x in L1, y in R2
    rcases List.eq_nil_or_concat L1 with e1 | ⟨L', t, e1⟩
    · rw [e1] at hx; simp at hx
    rw [List.concat_eq_append] at e1
    cases hR2 : R2 with
    | nil => rw [hR2] at hy; simp at hy
    | cons u R' =>
      have ht := h2 t L' u R' e1 hR2
      have a1 : ∀ z ∈ L1, tl lt z u := by
        rw [e1]
        exact all_le h (hoo u (by simp [hR2])) (fun z hz => hoo z (by rw [e1]; exact .inl hz)) (e1 ▸ l1) ht
      have a2 := all_ge h (hoo x (.inl hx)) (fun z hz => hoo z (by rw [hR2]; exact .inr (.inr (.inr hz)))) (hR2 ▸ r2) (a1 x hx)
      exact a2 y (hR2 ▸ hy)
  · -- x in R1, y in L2
    rcases List.eq_nil_or_concat R1 with e1 | ⟨R', t, e1⟩
    · rw [e1] at hx; simp at hx
    rw [List.concat_eq_append] at e1
    cases hL2 : L2 with
    | nil => rw [hL2] at hy; simp at hy
    | cons u L' =>
      have ht := h1 t R' u L' e1 hL2
      have a1 : ∀ z ∈ R1, tl lt z u := by
        rw [e1]
        exact all_le h (hoo u (by simp [hL2])) (fun z hz => hoo z (by rw [e1]; exact .inr (.inr (.inl hz)))) (e1 ▸ r1) ht
      have a2 := all_ge h (hoo x (.inr (.inr (.inl hx)))) (fun z hz => hoo z (by rw [hL2]; exact .inr (.inl hz))) (hL2 ▸ l2) (a1 x hx)
      exact a2 y (hL2 ▸ hy)
  · exact r3 x hx y hy
/-- One is laid into a sorted piece whose things all stand ahead in place. -/
theorem ins_ok (h : SWO lt ok) {x : Nat × β} {S T : List (Nat × β)} (ho : Oks ok (S ++ x :: T)) (hs : Srt lt (S ++ T)) (h1 : ∀ s S', S = S' ++ [s] → tl lt s x) (h2 : ∀ t T', T = t :: T' → tl lt x t) : Srt lt (S ++ x :: T) := by
  obtain ⟨a, b, c⟩ := List.pairwise_append.1 hs
  refine srt_mid h ho hs ?_ ?_
  · rcases List.eq_nil_or_concat S with e1 | ⟨S', t, e1⟩
    · rw [e1]; simp
    rw [List.concat_eq_append] at e1
    rw [e1]
    exact all_le h (ho x (by simp)) (fun z hz => ho z (by rw [e1]; exact List.mem_append_left _ hz)) (e1 ▸ a) (h1 t S' e1)
  · cases hT : T with
    | nil => simp
    | cons t T' => exact all_ge h (ho x (by simp)) (fun z hz => ho z (by rw [hT]; simp at hz ⊢; rcases hz with hz | hz <;> simp [hz])) (hT ▸ b) (h2 t T' hT)
end
end Go.Proofs.YtaglpaoipdmboaaGreat
/- Stable sorting, part two: the plain law of blocks that are sorted, and joined two by two. Conditions: the order is one of classes. -/
namespace Go.Proofs.YtaglpaoipdmboaaGreat

section
variable {β : Type} {lt : β → β → Bool} {ok : β → Prop}
/-- All places of the first ones lie ahead of those of the others. -/
def Ahead (L R : List (Nat × β)) : Prop := ∀ x ∈ L, ∀ y ∈ R, x.1 < y.1
theorem Ahead.perm {L R L' R' : List (Nat × β)} (h : Ahead L R) (hl : L'.Perm L) (hr : R'.Perm R) : Ahead L' R' := fun x hx y hy => h x (hl.mem_iff.1 hx) y (hr.mem_iff.1 hy)
theorem Oks.perm {L L' : List (Nat × β)} (h : Oks ok L) (hl : L'.Perm L) : Oks ok L' := fun x hx => h x (hl.mem_iff.1 hx)
theorem Oks.left {L R : List (Nat × β)} (h : Oks ok (L ++ R)) : Oks ok L := fun x hx => h x (List.mem_append_left _ hx)
theorem Oks.right {L R : List (Nat × β)} (h : Oks ok (L ++ R)) : Oks ok R := fun x hx => h x (List.mem_append_right _ hx)
theorem Oks.app {L R : List (Nat × β)} (h : Oks ok L) (h2 : Oks ok R) : Oks ok (L ++ R) := fun x hx => by
  rcases List.mem_append.1 hx with hx | hx
  · exact h x hx
  · exact h2 x hx
/-- One merge: the parts that were exchanged, each merged. -/
theorem merge_ok (h : SWO lt ok) {L1 L2 R1 R2 M1 M2 : List (Nat × β)} (hL : Srt lt (L1 ++ L2)) (hR : Srt lt (R1 ++ R2)) (ho : Oks ok ((L1 ++ L2) ++ (R1 ++ R2))) (ha : Ahead (L1 ++ L2) (R1 ++ R2))
    (h1 : ∀ x R' y L', R1 = R' ++ [x] → L2 = y :: L' → lt x.2 y.2 = true) (h2 : ∀ x L' y R', L1 = L' ++ [x] → R2 = y :: R' → lt y.2 x.2 = false)
    (p1 : M1.Perm (L1 ++ R1)) (p2 : M2.Perm (L2 ++ R2)) (s1 : Srt lt M1) (s2 : Srt lt M2) : (M1 ++ M2).Perm ((L1 ++ L2) ++ (R1 ++ R2)) ∧ Srt lt (M1 ++ M2) := by
  have hx := cut_lt h hL hR ho (fun x R' y L' e1 e2 => .inl (h1 x R' y L' e1 e2)) (fun x L' y R' e1 e2 => .inr ⟨h2 x L' y R' e1 e2, ha x (by rw [e1]; simp) y (by rw [e2]; simp)⟩)
  refine ⟨(p1.append p2).trans ?_, List.pairwise_append.2 ⟨s1, s2, fun x h1 y h2 => hx x (p1.mem_iff.1 h1) y (p2.mem_iff.1 h2)⟩⟩
  simp only [List.append_assoc]
  refine List.Perm.append_left L1 ?_
  rw [← List.append_assoc, ← List.append_assoc]
  exact List.perm_append_comm.append_right R2
/-- A piece that was turned, seen thing by thing. -/
theorem piece_at {A L M B : List (Nat × β)} (hp : M.Perm L) {j : Nat} {x : Nat × β} (hj : (A ++ M ++ B)[j]? = some x) :
    (j < A.length ∧ (A ++ L ++ B)[j]? = some x) ∨ (A.length ≤ j ∧ j < A.length + L.length ∧ M[j - A.length]? = some x ∧ x ∈ L) ∨ (A.length + L.length ≤ j ∧ (A ++ L ++ B)[j]? = some x) := by
  have hl := hp.length_eq
  rw [List.append_assoc, List.getElem?_append] at hj
  rw [List.append_assoc, List.getElem?_append]
  split at hj
  · rename_i h; rw [if_pos h]; exact .inl ⟨h, hj⟩
  · rename_i h
    rw [List.getElem?_append] at hj
    split at hj
    · exact .inr (.inl ⟨by omega, by omega, hj, hp.mem_iff.1 (List.mem_of_getElem? hj)⟩)
    · refine .inr (.inr ⟨by omega, ?_⟩)
      rw [if_neg h, List.getElem?_append_right (by omega), ← hl]; exact hj
theorem piece_mem {A L B : List (Nat × β)} {x : Nat × β} (h : x ∈ L) : ∃ j, A.length ≤ j ∧ j < A.length + L.length ∧ (A ++ L ++ B)[j]? = some x := by
  obtain ⟨i, hi, rfl⟩ := List.getElem_of_mem h
  refine ⟨A.length + i, by omega, by omega, ?_⟩
  rw [List.append_assoc, List.getElem?_append_right (by omega), List.getElem?_append_left (by omega), show A.length + i - A.length = i by omega, List.getElem?_eq_getElem hi]
theorem piece_srt {A L B : List (Nat × β)} (h : ∀ i j x y, A.length ≤ i → i < j → j < A.length + L.length → (A ++ L ++ B)[i]? = some x → (A ++ L ++ B)[j]? = some y → tl lt x y) : Srt lt L := by
  refine List.pairwise_iff_getElem.2 fun i j hi hj hij => h (A.length + i) (A.length + j) _ _ (by omega) (by omega) (by omega) ?_ ?_
  · rw [List.append_assoc, List.getElem?_append_right (by omega), List.getElem?_append_left (by omega), show A.length + i - A.length = i by omega, List.getElem?_eq_getElem hi]
  · rw [List.append_assoc, List.getElem?_append_right (by omega), List.getElem?_append_left (by omega), show A.length + j - A.length = j by omega, List.getElem?_eq_getElem hj]

/-- Blocks of w as far as a, of z behind it: what stands in a block was there at first; each is sorted. -/
structure BI (lt : β → β → Bool) (D : List (Nat × β)) (a w z : Nat) (X : List (Nat × β)) : Prop where
  perm : X.Perm D
  lo : ∀ j x, X[j]? = some x → j < a → x.1 / w = j / w
  hi : ∀ j x, X[j]? = some x → a ≤ j → x.1 / z = j / z
  slo : ∀ i j x y, X[i]? = some x → X[j]? = some y → i < j → j < a → i / w = j / w → tl lt x y
  shi : ∀ i j x y, X[i]? = some x → X[j]? = some y → i < j → a ≤ i → i / z = j / z → tl lt x y
theorem BI.len {D X : List (Nat × β)} {a w z : Nat} (h : BI lt D a w z X) : X.length = D.length := h.perm.length_eq
theorem bi_start (D : List (Nat × β)) (hD : ∀ (j : Nat) (x : Nat × β), D[j]? = some x → x.1 = j) (w : Nat) : BI lt D 0 w 1 D :=
  ⟨.refl _, fun j x _ h => absurd h (Nat.not_lt_zero j), fun j x h _ => by rw [hD j x h], fun i j x y _ _ _ h => absurd h (Nat.not_lt_zero j), fun i j x y _ _ h1 _ h2 => by
    rw [Nat.div_one, Nat.div_one] at h2; omega⟩
/-- The next blocks have become one. -/
theorem BI.step {D X A L M B : List (Nat × β)} {a w z b q : Nat} (h : BI lt D a w z X) (hz : 0 < z) (hw : w = q * z) (hq : 0 < q) (e : X = A ++ L ++ B) (ha : A.length = a) (haw : w ∣ a) (hb : A.length + L.length = b) (hbw : b ≤ a + w) (hbe : b = a + w ∨ B = []) (hp : M.Perm L) (hs : Srt lt M) :
    BI lt D b w z (A ++ M ++ B) := by
  have hw0 : 0 < w := by rw [hw]; exact Nat.mul_pos hq hz
  obtain ⟨k, rfl⟩ := haw
  have hza : ∀ j, z * (j / z) ≤ j ∧ j < z * (j / z) + z := fun j => ⟨Nat.mul_div_le j z, by have := Nat.lt_mul_div_succ j hz; rw [Nat.mul_succ] at this; exact this⟩
  have dz : ∀ p, p / w = p / z / q := fun p => by rw [hw, Nat.mul_comm q z, Nat.div_div_eq_div_mul]
  have inb : ∀ j, w * k ≤ j → j < b → j / w = k := fun j h1 h2 => by
    have : j / w < k + 1 := Nat.div_lt_of_lt_mul (by rw [Nat.mul_succ]; omega)
    have : k ≤ j / w := (Nat.le_div_iff_mul_le hw0).2 (by rw [Nat.mul_comm]; exact h1)
    omega
  refine ⟨?_, fun j x hj hjb => ?_, fun j x hj hjb => ?_, fun i j x y hi hj hij hjb hd => ?_, fun i j x y hi hj hij hjb hd => ?_⟩
  · refine (List.Perm.append_right B (List.Perm.append_left A hp)).trans ?_
    rw [← e]; exact h.perm
  · rcases piece_at hp hj with ⟨h1, h2⟩ | ⟨h1, h2, h3, h4⟩ | ⟨h1, h2⟩
    · exact h.lo j x (e ▸ h2) (ha ▸ h1)
    · obtain ⟨j', q1, q2, q3⟩ := piece_mem (A := A) (B := B) h4
      have := h.hi j' x (e ▸ q3) (ha ▸ q1)
      rw [dz, this, ← dz, inb j' (ha ▸ q1) (by omega), inb j (ha ▸ h1) (by omega)]
    · omega
  · rcases piece_at hp hj with ⟨h1, h2⟩ | ⟨h1, h2, h3, h4⟩ | ⟨h1, h2⟩
    · omega
    · omega
    · exact h.hi j x (e ▸ h2) (by omega)
  · have hjl : j < b := hjb
    rcases piece_at hp hi with ⟨i1, i2⟩ | ⟨i1, i2, i3, i4⟩ | ⟨i1, i2⟩ <;> rcases piece_at hp hj with ⟨j1, j2⟩ | ⟨j1, j2, j3, j4⟩ | ⟨j1, j2⟩ <;> try omega
    · exact h.slo i j x y (e ▸ i2) (e ▸ j2) hij (ha ▸ j1) hd
    · exfalso
      have q1 := inb j (ha ▸ j1) hjl
      have q2 : i / w < k := Nat.div_lt_of_lt_mul (by omega)
      omega
    · obtain ⟨hi1, rfl⟩ := List.getElem?_eq_some_iff.1 i3
      obtain ⟨hj1, rfl⟩ := List.getElem?_eq_some_iff.1 j3
      exact List.pairwise_iff_getElem.1 hs _ _ hi1 hj1 (by omega)
  · rcases piece_at hp hi with ⟨i1, i2⟩ | ⟨i1, i2, i3, i4⟩ | ⟨i1, i2⟩ <;> rcases piece_at hp hj with ⟨j1, j2⟩ | ⟨j1, j2, j3, j4⟩ | ⟨j1, j2⟩ <;> try omega
    exact h.shi i j x y (e ▸ i2) (e ▸ j2) hij (by omega) hd
/-- All blocks are done: the next round. -/
theorem BI.next {D X : List (Nat × β)} {a w z : Nat} (h : BI lt D a w z X) (ha : X.length ≤ a) (w2 : Nat) : BI lt D 0 w2 w X :=
  ⟨h.perm, fun j x _ hj => absurd hj (Nat.not_lt_zero j), fun j x hj _ => h.lo j x hj (Nat.lt_of_lt_of_le (List.getElem?_eq_some_iff.1 hj).1 ha), fun i j x y _ _ _ hj => absurd hj (Nat.not_lt_zero j),
    fun i j x y hi hj hij _ hd => h.slo i j x y hi hj hij (Nat.lt_of_lt_of_le (List.getElem?_eq_some_iff.1 hj).1 ha) hd⟩
/-- What is left is one block already. -/
theorem BI.rest {D X : List (Nat × β)} {a w z q : Nat} (h : BI lt D a w z X) (hz : 0 < z) (hw : w = q * z) (hq : 0 < q) (haw : w ∣ a) (hl : X.length ≤ a + z) : BI lt D (a + z) w z X := by
  have hw0 : 0 < w := by rw [hw]; exact Nat.mul_pos hq hz
  obtain ⟨k, rfl⟩ := haw
  have dz : ∀ p, p / w = p / z / q := fun p => by rw [hw, Nat.mul_comm q z, Nat.div_div_eq_div_mul]
  have hzw : z ≤ w := by rw [hw]; exact Nat.le_mul_of_pos_left z hq
  have inb : ∀ j, w * k ≤ j → j < w * k + z → j / w = k ∧ j / z = w * k / z := fun j h1 h2 => by
    have : j / w < k + 1 := Nat.div_lt_of_lt_mul (by rw [Nat.mul_succ]; omega)
    have : k ≤ j / w := (Nat.le_div_iff_mul_le hw0).2 (by rw [Nat.mul_comm]; exact h1)
    refine ⟨by omega, ?_⟩
    have e : w * k = q * k * z := by rw [hw, Nat.mul_right_comm]
    rw [e, Nat.mul_div_cancel _ hz]
    rw [e] at h1 h2
    have a1 : j / z < q * k + 1 := Nat.div_lt_of_lt_mul (by rw [Nat.mul_succ, Nat.mul_comm z]; omega)
    have a2 : q * k ≤ j / z := (Nat.le_div_iff_mul_le hz).2 h1
    omega
  refine ⟨h.perm, fun j x hj hjb => ?_, fun j x hj hjb => ?_, fun i j x y hi hj hij hjb hd => ?_, fun i j x y hi hj hij hjb hd => ?_⟩
  · rcases Nat.lt_or_ge j (w * k) with h1 | h1
    · exact h.lo j x hj h1
    · have := h.hi j x hj h1
      rw [dz, this, ← dz]
  · have := (List.getElem?_eq_some_iff.1 hj).1; omega
  · have hjl := (List.getElem?_eq_some_iff.1 hj).1
    rcases Nat.lt_or_ge j (w * k) with h1 | h1
    · exact h.slo i j x y hi hj hij h1 hd
    · rcases Nat.lt_or_ge i (w * k) with h2 | h2
      · have q1 := (inb j h1 hjb).1
        have q2 : i / w < k := Nat.div_lt_of_lt_mul h2
        omega
      · exact h.shi i j x y hi hj hij h2 (by rw [(inb i h2 (by omega)).2, (inb j h1 hjb).2])
  · have := (List.getElem?_eq_some_iff.1 hi).1; omega
/-- One block: all is sorted. -/
theorem BI.done {D X : List (Nat × β)} {w z : Nat} (h : BI lt D 0 w z X) (hl : X.length ≤ z) : Srt lt X :=
  List.pairwise_iff_getElem.2 fun i j hi hj hij => h.shi i j _ _ (List.getElem?_eq_getElem hi) (List.getElem?_eq_getElem hj) hij (Nat.zero_le _) (by rw [Nat.div_eq_of_lt (by omega), Nat.div_eq_of_lt (by omega)])
/-- The next block as it stands: two sorted pieces, one ahead of the other. -/
theorem BI.two {D X A L R B : List (Nat × β)} {a z : Nat} (h : BI lt D a (2 * z) z X) (hz : 0 < z) (e : X = A ++ (L ++ R) ++ B) (ha : A.length = a) (haw : 2 * z ∣ a) (hL : L.length = z) (hR : R.length ≤ z) : Srt lt L ∧ Srt lt R ∧ Ahead L R := by
  obtain ⟨k, rfl⟩ := haw
  have e1 : 2 * z * k = 2 * k * z := by rw [Nat.mul_right_comm]
  have l1 : ∀ j, 2 * z * k ≤ j → j < 2 * z * k + z → j / z = 2 * k := fun j h1 h2 => by
    rw [e1] at h1 h2
    have a1 : j / z < 2 * k + 1 := Nat.div_lt_of_lt_mul (by rw [Nat.mul_succ, Nat.mul_comm z]; omega)
    have a2 : 2 * k ≤ j / z := (Nat.le_div_iff_mul_le hz).2 h1
    omega
  have l2 : ∀ j, 2 * z * k + z ≤ j → j < 2 * z * k + z + z → j / z = 2 * k + 1 := fun j h1 h2 => by
    rw [e1] at h1 h2
    have a1 : j / z < 2 * k + 1 + 1 := Nat.div_lt_of_lt_mul (by rw [Nat.mul_succ, Nat.mul_succ, Nat.mul_comm z]; omega)
    have a2 : 2 * k + 1 ≤ j / z := (Nat.le_div_iff_mul_le hz).2 (by rw [Nat.succ_mul]; exact h1)
    omega
  have eL : X = A ++ L ++ (R ++ B) := by rw [e]; simp only [List.append_assoc]
  have eR : X = (A ++ L) ++ R ++ B := by rw [e]; simp only [List.append_assoc]
  have lAL : (A ++ L).length = 2 * z * k + z := by rw [List.length_append, ha, hL]
  refine ⟨piece_srt (A := A) (B := R ++ B) fun i j x y h1 h2 h3 h4 h5 => ?_, piece_srt (A := A ++ L) (B := B) fun i j x y h1 h2 h3 h4 h5 => ?_, fun x hx y hy => ?_⟩
  · exact h.shi i j x y (eL ▸ h4) (eL ▸ h5) h2 (by omega) (by rw [l1 i (by omega) (by omega), l1 j (by omega) (by omega)])
  · exact h.shi i j x y (eR ▸ h4) (eR ▸ h5) h2 (by omega) (by rw [l2 i (by omega) (by omega), l2 j (by omega) (by omega)])
  · obtain ⟨i, h1, h2, h3⟩ := piece_mem (A := A) (B := R ++ B) hx
    obtain ⟨j, h4, h5, h6⟩ := piece_mem (A := A ++ L) (B := B) hy
    have a1 := h.hi i x (eL ▸ h3) (by omega)
    have a2 := h.hi j y (eR ▸ h6) (by omega)
    rw [l1 i (by omega) (by omega)] at a1
    rw [l2 j (by omega) (by omega)] at a2
    have b1 := Nat.lt_of_div_lt_div (a := x.1) (b := y.1) (c := z) (by omega)
    exact b1
/-- The next block as it stood at first: places rise. -/
theorem BI.rise {D X A L B : List (Nat × β)} {a w : Nat} (h : BI lt D a w 1 X) (e : X = A ++ L ++ B) (ha : A.length = a) : L.Pairwise (fun x y => x.1 < y.1) := by
  refine List.pairwise_iff_getElem.2 fun i j hi hj hij => ?_
  have key : ∀ i (hi : i < L.length), L[i].1 = a + i := fun i hi => by
    have := h.hi (A.length + i) L[i] (by rw [e, List.append_assoc, List.getElem?_append_right (by omega), List.getElem?_append_left (by omega), show A.length + i - A.length = i by omega, List.getElem?_eq_getElem hi]) (by omega)
    rw [Nat.div_one, Nat.div_one] at this; omega
  rw [key i hi, key j hj]; omega
end
end Go.Proofs.YtaglpaoipdmboaaGreat
/- Stable sorting, part three: events compared; two of them exchanged; ranges of them exchanged. Conditions: none. -/
namespace Go.Proofs.YtaglpaoipdmboaaGreat
open Go Go.Eng Go.RowKit

abbrev pvC (p : Nat × Ev) : List Value := evC p.2
abbrev rPl (A : Option Addr) (c n : Nat) (D : List (Nat × Ev)) : SP := row t_event_place 39 (.slice A n c) n (flC pvC D)
def evLt (x y : Ev) : Bool := lessL x.r x.n x.deps y.r y.n y.deps
def evCmp (x y : Ev) : Int := if evLt x y = true then -1 else if evLt y x = true then 1 else 0
theorem evCmp_lt (x y : Ev) : decide (evCmp x y < 0) = evLt x y := by
  unfold evCmp
  split
  · rename_i h; rw [h]; rfl
  · rename_i h
    have h' : evLt x y = false := by simpa using h
    rw [h']
    split <;> rfl
/-- An event whose cells are cells. -/
structure EvK (e : Ev) : Prop where
  l32 : e.id.length = 32
  d1 : e.dv.oneCell' = true
  r1 : e.rv.oneCell' = true
section
variable {b : World} {F : List SP} {x y : Ev}
theorem eLess_S (hx : ∀ w, Sat b F w → ER w x) (hy : ∀ w, Sat b F w → ER w y) : SC Tryz.prog n_event_Less [evV x, evV y] b F (fun v F' => v = .bool (evLt x y) ∧ F' = F) := by
  refine enterS F_event_Less rfl rfl rfl ?_
  (refine sw_seq ?_; refine sw_region ?_)
  refine so_box rfl rfl rfl rfl rfl fun g2 => ?_
  skip
  refine so_box rfl rfl rfl rfl rfl fun g3 => ?_
  (refine so_1 rfl ?_; refine so_nil ?_; refine sn_then ?_; refine sw_seq ?_; refine sw_region ?_; refine so_1 rfl ?_; refine so_l 1 rfl rfl rfl ?_; refine so_1 rfl ?_; refine so_l 1 rfl rfl rfl ?_; refine so_1 rfl ?_; refine so_l 0 rfl rfl rfl ?_; refine so_1 rfl ?_; refine so_l 0 rfl rfl rfl ?_)
  refine so_callE rfl rfl rfl ((SC.ofExt fun w H => Less_spec (up hx (ent_keep 2 [] rfl rfl) w H).dv (up hy (ent_keep 2 [] rfl rfl) w H).dv)) ?_
  (refine so_1 rfl ?_; refine so_nil ?_; refine sn_then ?_; refine sw_ret ?_)
  refine sn_ret rfl (.tmp rfl .nil) (ent_keep 2 [] rfl rfl) ?_
  exact ⟨rfl, rfl⟩
theorem compare_S (hx : ∀ w, Sat b F w → ER w x) (hy : ∀ w, Sat b F w → ER w y) (kx : x.id.length = 32) (ky : y.id.length = 32) : SC Tryz.prog n_event_place_compare [evV x, evV y] b F (fun v F' => v = .int .i64 (evCmp x y) ∧ F' = F) := by
  refine enterS F_event_place_compare rfl rfl rfl ?_
  (refine sw_seq ?_; refine sw_region ?_)
  refine so_box rfl rfl rfl rfl rfl fun g2 => ?_
  skip
  refine so_box rfl rfl rfl rfl rfl fun g3 => ?_
  (refine so_1 rfl ?_; refine so_nil ?_; refine sn_then ?_; refine sw_seq ?_; refine sw_block ?_; refine sw_seq ?_; refine sw_region ?_)
  refine so_ldA 1 rfl rfl rfl rfl rfl rfl (segO_all (by rw [evC_len kx]; rfl)) rfl ?_
  skip
  refine so_ldA 0 rfl rfl rfl rfl rfl rfl (segO_all (by rw [evC_len ky]; rfl)) rfl ?_
  refine so_callE rfl rfl rfl ((eLess_S (up hx (ent_keep 2 [] rfl rfl)) (up hy (ent_keep 2 [] rfl rfl)))) ?_
  (refine so_1 rfl ?_; refine so_nil ?_; refine sn_then ?_)
  refine sw_cond rfl (fun h => ?_) (fun h => ?_)
  · (refine sw_seq ?_; refine sw_region ?_; refine so_1 rfl ?_; refine so_nil ?_; refine sn_then ?_; refine sw_ret ?_; refine sn_block_ret ?_; refine sn_then_ret ?_)
    refine sn_ret rfl (.tmp rfl .nil) (ent_keep 2 [] rfl rfl) ?_
    exact ⟨by rw [evCmp, if_pos h]; rfl, rfl⟩
  · (refine sw_seq ?_; refine sw_region ?_)
    refine so_ldA 0 rfl rfl rfl rfl rfl rfl (segO_all (by rw [evC_len ky]; rfl)) rfl ?_
    skip
    refine so_ldA 1 rfl rfl rfl rfl rfl rfl (segO_all (by rw [evC_len kx]; rfl)) rfl ?_
    refine so_callE rfl rfl rfl ((eLess_S (up hy (ent_keep 2 [] rfl rfl)) (up hx (ent_keep 2 [] rfl rfl)))) ?_
    (refine so_1 rfl ?_; refine so_nil ?_; refine sn_then ?_)
    refine sw_cond rfl (fun h2 => ?_) (fun h2 => ?_)
    · (refine sw_seq ?_; refine sw_region ?_; refine so_1 rfl ?_; refine so_nil ?_; refine sn_then ?_; refine sw_ret ?_; refine sn_block_ret ?_; refine sn_then_ret ?_)
      refine sn_ret rfl (.tmp rfl .nil) (ent_keep 2 [] rfl rfl) ?_
      exact ⟨by rw [evCmp, if_neg (by rw [h]; simp), if_pos h2]; rfl, rfl⟩
    · (refine sw_skip ?_; refine sn_block ?_; refine sn_then ?_; refine sw_seq ?_; refine sw_region ?_; refine so_1 rfl ?_; refine so_nil ?_; refine sn_then ?_; refine sw_ret ?_)
      refine sn_ret rfl (.tmp rfl .nil) (ent_keep 2 [] rfl rfl) ?_
      exact ⟨by rw [evCmp, if_neg (by rw [h]; simp), if_neg (by rw [h2]; simp)]; rfl, rfl⟩
end
/-- Two things exchanged. -/
def swp {α : Type} (D : List α) (i j : Nat) (x y : α) : List α := (D.set i y).set j x
section
variable {b : World} {F : List SP} {D : List (Nat × Ev)} {A : Option Addr} {c n : Nat}
theorem pvC_len (h : ∀ m ∈ D, EvK m.2) : ∀ m ∈ D, (pvC m).length = 39 := fun m hm => evC_len (h m hm).l32
theorem evk_set (h : ∀ m ∈ D, EvK m.2) {x : Nat × Ev} (hx : EvK x.2) (i : Nat) : ∀ m ∈ D.set i x, EvK m.2 := fun m hm => by
  rcases List.mem_or_eq_of_mem_set hm with h' | rfl
  · exact h m h'
  · exact hx
/-- Behind k steps of an exchange of ranges. -/
def swR {α : Type} (D : List α) (a c : Nat) : Nat → List α
  | 0 => D
  | k + 1 => match D[a + k]?, D[c + k]? with
    | some x, some y => swp (swR D a c k) (a + k) (c + k) x y
    | _, _ => swR D a c k
theorem swR_length {α : Type} (D : List α) (a c k : Nat) : (swR D a c k).length = D.length := by
  induction k with
  | zero => rfl
  | succ k ih => simp only [swR]; split <;> simp [swp, ih]
theorem swR_get {α : Type} (D : List α) (a c k : Nat) (hac : a + k ≤ c) (hc : c + k ≤ D.length) (p : Nat) : (swR D a c k)[p]? = if a ≤ p ∧ p < a + k then D[p - a + c]? else if c ≤ p ∧ p < c + k then D[p - c + a]? else D[p]? := by
  induction k with
  | zero => simp only [swR]; rw [if_neg (by omega), if_neg (by omega)]
  | succ k ih =>
    have e := ih (by omega) (by omega)
    simp only [swR]
    have h1 : a + k < D.length := by omega
    have h2 : c + k < D.length := by omega
    rw [List.getElem?_eq_getElem h1, List.getElem?_eq_getElem h2]
    simp only [swp, List.getElem?_set, List.length_set, swR_length]
    by_cases q1 : c + k = p
    · subst q1
      rw [if_pos rfl, if_pos h2, if_neg (by omega), if_pos (by omega), show c + k - c + a = a + k by omega, List.getElem?_eq_getElem h1]
    · rw [if_neg q1]
      by_cases q2 : a + k = p
      · subst q2
        rw [if_pos rfl, if_pos h1, if_pos (by omega), show a + k - a + c = c + k by omega, List.getElem?_eq_getElem h2]
      · rw [if_neg q2, e]
        by_cases q3 : a ≤ p ∧ p < a + k
        · rw [if_pos q3, if_pos (by omega)]
        · rw [if_neg q3]
          by_cases q4 : c ≤ p ∧ p < c + k
          · rw [if_pos q4, if_neg (by omega), if_pos (by omega)]
          · rw [if_neg q4, if_neg (by omega), if_neg (by omega)]
theorem swR_app {α : Type} (A X C Y B : List α) (h : X.length = Y.length) : swR (A ++ X ++ C ++ Y ++ B) A.length (A.length + X.length + C.length) X.length = A ++ Y ++ C ++ X ++ B := by
  apply List.ext_getElem?
  intro p
  rw [swR_get _ _ _ _ (by omega) (by simp; omega)]
  simp only [List.append_assoc, List.getElem?_append]
  by_cases p1 : p < A.length
  · rw [if_neg (by omega), if_neg (by omega), if_pos p1, if_pos p1]
  · rw [if_neg p1, if_neg p1]
    by_cases p2 : p < A.length + X.length
    · rw [if_pos (by omega), if_neg (by omega), if_neg (by omega), if_neg (by omega), if_pos (by omega), if_pos (by omega)]
      congr 1; omega
    · rw [if_neg (by omega)]
      by_cases p3 : p - A.length - X.length < C.length
      · rw [if_neg (by omega), if_neg (by omega), if_pos p3, if_neg (by omega), if_pos (by omega)]
        congr 1; omega
      · by_cases p4 : p < A.length + X.length + C.length + X.length
        · rw [if_pos (by omega), if_neg (by omega), if_pos (by omega), if_neg (by omega), if_neg (by omega), if_pos (by omega)]
          congr 1; omega
        · rw [if_neg (by omega), if_neg (by omega), if_neg p3, if_neg (by omega), if_neg (by omega), if_neg (by omega), if_neg (by omega)]
          congr 1; omega
end
end Go.Proofs.YtaglpaoipdmboaaGreat
/- Stable sorting, part four: ranges exchanged, pieces turned round; sorting by insertion. Conditions: none. -/
namespace Go.Proofs.YtaglpaoipdmboaaGreat
open Go Go.Eng Go.RowKit

theorem swo_evLt : SWO evLt (fun _ => True) where
  asy := fun x y _ _ h => by
    unfold evLt lessL at *
    have := of_decide_eq_true h
    exact decide_eq_false (by omega)
  ntr := fun x y z _ _ _ h1 h2 => by
    unfold evLt lessL at *
    have a := of_decide_eq_false h1
    have c := of_decide_eq_false h2
    exact decide_eq_false (by omega)
section
variable {b : World} {F : List SP} {D : List (Nat × Ev)} {A : Option Addr} {c n : Nat} {fv : Value}
theorem pl_seg (hK : ∀ m ∈ D, EvK m.2) {j : Nat} {x : Nat × Ev} (h : D[j]? = some x) : ((flC pvC D).drop (j * 39)).take 39 = evC x.2 := by
  obtain ⟨hj, rfl⟩ := List.getElem?_eq_some_iff.1 h
  exact flC_seg (pvC_len hK) hj
theorem pl_set (hK : ∀ m ∈ D, EvK m.2) {j : Nat} {x : Nat × Ev} (hx : EvK x.2) (hj : j < D.length) : spl (flC pvC D) (j * 39) (evC x.2) = flC pvC (D.set j x) := flC_set (f := pvC) (pvC_len hK) (evC_len hx.l32) hj
theorem pl_len (hK : ∀ m ∈ D, EvK m.2) : (flC pvC D).length = D.length * 39 := flC_len (pvC_len hK)
theorem evK_at (hK : ∀ m ∈ D, EvK m.2) {j : Nat} {x : Nat × Ev} (h : D[j]? = some x) : EvK x.2 := hK _ (List.mem_of_getElem? h)
theorem evK_perm {D' : List (Nat × Ev)} (hK : ∀ m ∈ D, EvK m.2) (h : D'.Perm D) : ∀ m ∈ D', EvK m.2 := fun m hm => hK m (h.mem_iff.1 hm)
theorem swR_evK (hK : ∀ m ∈ D, EvK m.2) (a cc k : Nat) : ∀ m ∈ swR D a cc k, EvK m.2 := by
  induction k with
  | zero => exact hK
  | succ k ih =>
    simp only [swR]
    split
    · rename_i x y h1 h2
      exact evk_set (evk_set ih (evK_at hK h2) _) (evK_at hK h1) _
    · exact ih
set_option maxRecDepth 20000 in
set_option maxHeartbeats 2000000 in
theorem swapRange_S (hK : ∀ m ∈ D, EvK m.2) (hn : D.length = n) {a cc m : Nat} (h1 : a + m ≤ cc) (h2 : cc + m ≤ n) (hm : n ≤ 100000) : SC Tryz.prog n_slices_swapRangeCmpFunc_event_place [.slice A n c, .int .i64 a, .int .i64 cc, .int .i64 m, fv] b (rPl A c n D :: F) (fun _ F' => F' = rPl A c n (swR D a cc m) :: F) := by
  refine enterS F_slices_swapRangeCmpFunc_event_place rfl rfl rfl ?_
  refine sw_fact (fun w H => (H.oat (k := 0) rfl).form) ?_
  rintro ⟨A', c', hv, k1, k2, k3⟩
  cases hv
  (refine sw_seq ?_; refine sw_region ?_; refine so_1 rfl ?_; refine so_nil ?_; refine sn_then ?_; refine sw_block ?_)
  refine sw_loop (S := Nat) (fun i => [(0, .slice A n c), (1, .int .i64 a), (2, .int .i64 cc), (3, .int .i64 m), (10, .int .i64 i)]) (fun i => rPl A c n (swR D a cc i) :: F) (fun i => i ≤ m) (fun i => m - i) 0 ⟨rfl, rfl, rfl, rfl, rfl, trivial⟩ (Ent.refl _) (Nat.zero_le _) ?_
  intro i hi
  ((iterate 2 refine sw_seq ?_); refine sw_region ?_; (iterate 3 refine so_1 rfl ?_); refine so_nil ?_; refine sn_then ?_)
  refine sw_if rfl (fun g1 => ?_) (fun g1 => ?_)
  · have g1' : i < m := by omega
    obtain ⟨gg, oo, rfl⟩ := k3 (by omega)
    have d1 : a + i < D.length := by omega
    have d2 : cc + i < D.length := by omega
    have e0 : swR D a cc (i + 1) = swp (swR D a cc i) (a + i) (cc + i) D[a + i] D[cc + i] := by
      simp only [swR, List.getElem?_eq_getElem d1, List.getElem?_eq_getElem d2]
    have s1 : (swR D a cc i)[a + i]? = some D[a + i] := by
      rw [swR_get _ _ _ _ (by omega) (by omega), if_neg (by omega), if_neg (by omega), List.getElem?_eq_getElem d1]
    have s2 : (swR D a cc i)[cc + i]? = some D[cc + i] := by
      rw [swR_get _ _ _ _ (by omega) (by omega), if_neg (by omega), if_neg (by omega), List.getElem?_eq_getElem d2]
    have hKi := swR_evK hK a cc i
    have hli : (swR D a cc i).length = n := by rw [swR_length, hn]
    have kx := evK_at hKi s1
    have ky := evK_at hKi s2
    have f1 := pl_seg hKi s1
    have f2 := pl_seg hKi s2
    have w1 := pl_set hKi ky (j := a + i) (by omega)
    have w2 := pl_set (evk_set hKi ky (a + i)) kx (j := cc + i) (by rw [List.length_set]; omega)
    have l1 := pl_len hKi
    have l2 := pl_len (evk_set hKi ky (a + i))
    rw [List.length_set] at l2
    rw [hli] at l1 l2
    have hb1 : (a + i) * 39 + 39 ≤ n * 39 ∧ (cc + i) * 39 + 39 ≤ n * 39 := by omega
    have x1 := evC_one kx.d1 kx.r1
    have x2 := evC_one ky.d1 ky.r1
    have ex := evC_len kx.l32
    have ey := evC_len ky.l32
    unfold swp at e0
    generalize swR D a cc i = X at *
    generalize D[a + i] = x at *
    generalize D[cc + i] = y at *
    have q1 : ((a : Int) + (i : Int)) = ((a + i : Nat) : Int) := by omega
    have q2 : ((cc : Int) + (i : Int)) = ((cc + i : Nat) : Int) := by omega
    (refine sw_skip ?_; refine sn_then ?_; refine sw_seq ?_; refine sw_block ?_)
    refine sw_freeC 21 [4, 5, 6, 7] (fl := flo) [] [(0, .slice (some ⟨gg, oo, none⟩) n c), (1, .int .i64 a), (2, .int .i64 cc), (3, .int .i64 m), (10, .int .i64 i)] ⟨rfl, rfl, rfl, rfl, rfl, trivial⟩ rfl (by kernel_rfl) (by kernel_rfl) (by decide) ?_
    ((iterate 3 refine fc_p (fun _ => rfl) ?_); refine fc_c (fun _ => rfl) (by (unfold I64; omega)) ?_; (iterate 3 refine fc_p (fun _ => rfl) ?_); refine fc_c (fun _ => rfl) (by (unfold I64; omega)) ?_; (iterate 3 refine fc_p (fun _ => rfl) ?_); refine fc_c (fun _ => rfl) (by (unfold I64; omega)) ?_; refine fc_c (fun _ => rfl) (by omega) ?_)
    refine fc_nf (by simp only [List.nil_append, List.cons_append]; exact rfl) ?_
    refine fc_ldrow 0 ((cc + i) * 39) rfl rfl rfl rfl (fun _ => rfl) rfl (by rw [mulz_eq, q2, Int.toNat_natCast]) (by omega) f2 (by rw [ey]; rfl) ?_
    ((iterate 3 refine fc_p (fun _ => rfl) ?_); refine fc_c (fun _ => rfl) (by (unfold I64; omega)) ?_; refine fc_c (fun _ => rfl) (by omega) ?_)
    refine fc_nf (by simp only [List.nil_append, List.cons_append]; exact rfl) ?_
    refine fc_ldrow 0 ((a + i) * 39) rfl rfl rfl rfl (fun _ => rfl) rfl (by rw [mulz_eq, q1, Int.toNat_natCast]) (by omega) f1 (by rw [ex]; rfl) ?_
    (refine fc_c (fun _ => rfl) (by omega) ?_)
    refine fc_nf (by simp only [List.nil_append, List.cons_append]; exact rfl) ?_
    refine .done rfl fun _ => ⟨ent_nil _, ?_⟩
    refine sd_strow 0 ((a + i) * 39) rfl rfl rfl rfl rfl rfl rfl rfl rfl w1 (by rw [ey]; rfl) (by rw [mulz_eq, q1, Int.toNat_natCast]) (by rw [ey]; omega) x2 (ent_nil _) ?_
    (refine sd_2 rfl rfl (by omega) ?_)
    refine sd_strow 0 ((cc + i) * 39) rfl rfl rfl rfl rfl rfl rfl rfl rfl w2 (by rw [ex]; rfl) (by rw [mulz_eq, q2, Int.toNat_natCast]) (by rw [ex]; omega) x1 (ent_nil _) ?_
    refine sd_nil ?_
    (refine sn_block ?_; refine sn_then ?_; refine sw_region ?_; refine so_1 rfl ?_; refine so_2 rfl (by (unfold I64; omega)) ?_; refine so_1 rfl ?_; refine so_nil ?_)
    refine sn_round (i + 1) ⟨rfl, rfl, rfl, rfl, rfl, trivial⟩ ?_ ?_ ?_
    · show Ent _ (rPl _ c n (swR D a cc (i + 1)) :: F)
      rw [e0]; exact Ent.refl _
    · show i + 1 ≤ m
      omega
    · show m - (i + 1) < m - i
      omega
  · obtain rfl : i = m := by omega
    (refine sw_exit ?_; refine sn_then_exit ?_; refine sn_loop_exit ?_; refine sn_block_exit ?_)
    refine sn_end rfl .nil (Ent.refl _) ?_
    rfl
end
end Go.Proofs.YtaglpaoipdmboaaGreat
/- Stable sorting, part five: pieces turned round. Conditions: none. -/
namespace Go.Proofs.YtaglpaoipdmboaaGreat
open Go Go.Eng Go.RowKit

theorem mid_perm {α : Type} (P X Y Q : List α) : (P ++ X ++ Y ++ Q).Perm (P ++ Y ++ X ++ Q) := by
  rw [List.append_assoc P X Y, List.append_assoc P Y X]
  exact (List.perm_append_comm.append_left P).append_right Q
section
variable {b : World} {F : List SP} {A : Option Addr} {c n : Nat} {fv : Value}
/-- How a turn of pieces stands. -/
structure RoI (T : List (Nat × Ev)) (n m i j : Nat) (P X Y Q : List (Nat × Ev)) : Prop where
  hP : P.length + i = m
  hX : X.length = i
  hY : Y.length = j
  i0 : 0 < i
  j0 : 0 < j
  eq : T = P ++ Y ++ X ++ Q
  len : P.length + i + j + Q.length = n
set_option maxRecDepth 20000 in
set_option maxHeartbeats 2000000 in
theorem rotate_S {P L R Q : List (Nat × Ev)} {a m z : Nat} (hK : ∀ x ∈ P ++ R ++ L ++ Q, EvK x.2) (hn : (P ++ R ++ L ++ Q).length = n) (hm : n ≤ 100000) (hL : 0 < L.length) (hR : 0 < R.length) (ha : P.length = a) (hmm : a + L.length = m) (hz : m + R.length = z) :
    SC Tryz.prog n_slices_rotateCmpFunc_event_place [.slice A n c, .int .i64 a, .int .i64 m, .int .i64 z, fv] b (rPl A c n (P ++ L ++ R ++ Q) :: F) (fun _ F' => F' = rPl A c n (P ++ R ++ L ++ Q) :: F) := by
  have bm : z ≤ 100000 ∧ a ≤ m ∧ m ≤ z := by simp only [List.length_append] at hn; omega
  have hT : ∃ T, P ++ R ++ L ++ Q = T := ⟨_, rfl⟩
  obtain ⟨T, hT⟩ := hT
  rw [hT] at hK hn ⊢
  have kk : ∀ {X : List (Nat × Ev)}, X.Perm T → ∀ x ∈ X, EvK x.2 := fun h => evK_perm hK h
  refine enterS F_slices_rotateCmpFunc_event_place rfl rfl rfl ?_
  (refine sw_seq ?_; refine sw_region ?_; (iterate 2 refine so_1 rfl ?_); refine so_2 rfl (by (unfold I64; omega)) ?_; refine so_1 rfl ?_; refine so_nil ?_; refine sn_then ?_; refine sw_seq ?_; refine sw_region ?_; (iterate 2 refine so_1 rfl ?_); refine so_2 rfl (by (unfold I64; omega)) ?_; refine so_1 rfl ?_; refine so_nil ?_; refine sn_then ?_; refine sw_seq ?_; refine sw_block ?_)
  rw [show (m : Int) - (a : Int) = ((L.length : Nat) : Int) by omega]
  skip
  rw [show (z : Int) - (m : Int) = ((R.length : Nat) : Int) by omega]
  have h00 : RoI T n m L.length R.length P L R Q := ⟨by omega, rfl, rfl, hL, hR, hT.symm, by rw [← hn, ← hT]; simp; omega⟩
  refine sw_loop (S := Nat × Nat × List (Nat × Ev) × List (Nat × Ev) × List (Nat × Ev) × List (Nat × Ev)) (fun s => [(0, .slice A n c), (2, .int .i64 m), (4, fv), (10, .int .i64 s.1), (11, .int .i64 s.2.1)])
    (fun s => rPl A c n (s.2.2.1 ++ s.2.2.2.1 ++ s.2.2.2.2.1 ++ s.2.2.2.2.2) :: F) (fun s => RoI T n m s.1 s.2.1 s.2.2.1 s.2.2.2.1 s.2.2.2.2.1 s.2.2.2.2.2) (fun s => s.1 + s.2.1) (L.length, R.length, P, L, R, Q) ⟨rfl, rfl, rfl, rfl, rfl, trivial⟩ (Ent.refl _) h00 ?_
  rintro ⟨i, j, P', X, Y, Q'⟩ hI
  dsimp only at hI ⊢
  obtain ⟨hP, hX, hY, i0, j0, he, hl⟩ := hI
  ((iterate 2 refine sw_seq ?_); refine sw_region ?_; (iterate 3 refine so_1 rfl ?_); refine so_nil ?_; refine sn_then ?_)
  refine sw_ifn rfl (fun h1 => ?_) (fun h1 => ?_)
  · (refine sw_skip ?_; refine sn_then ?_; refine sw_block ?_; refine sw_seq ?_; refine sw_region ?_; (iterate 3 refine so_1 rfl ?_); refine so_nil ?_; refine sn_then ?_)
    refine sw_if rfl (fun h2 => ?_) (fun h2 => ?_)
    · (refine sw_seq ?_; refine sw_region ?_; (iterate 3 refine so_1 rfl ?_); refine so_2 rfl (by (unfold I64; omega)) ?_; (iterate 3 refine so_1 rfl ?_))
      rw [show (m : Int) - (i : Int) = ((P'.length : Nat) : Int) by omega]
      obtain ⟨X1, X2, rfl, hX1, hX2⟩ : ∃ X1 X2, X = X1 ++ X2 ∧ X1.length = j ∧ X2.length = i - j := ⟨X.take j, X.drop j, (List.take_append_drop j X).symm, by rw [List.length_take]; omega, by rw [List.length_drop]; omega⟩
      have e1 := swR_app P' X1 X2 Y Q' (by omega)
      rw [show P' ++ X1 ++ X2 ++ Y ++ Q' = P' ++ (X1 ++ X2) ++ Y ++ Q' by simp only [List.append_assoc], show P'.length + X1.length + X2.length = m by omega, hX1] at e1
      have hsw := swapRange_S (b := b) (F := F) (A := A) (c := c) (n := n) (fv := fv) (D := P' ++ (X1 ++ X2) ++ Y ++ Q') (a := P'.length) (cc := m) (m := j) (kk (by rw [he]; exact mid_perm _ _ _ _)) (by simp; omega) (by omega) (by omega) hm
      rw [e1] at hsw
      skip
      refine so_call rfl rfl rfl (hsw) ?_
      rintro _ _ rfl
      (refine so_nil ?_; refine sn_then ?_; refine sw_region ?_; (iterate 2 refine so_1 rfl ?_); refine so_2 rfl (by (unfold I64; omega)) ?_; refine so_1 rfl ?_; refine so_nil ?_; refine sn_block ?_)
      rw [show (i : Int) - (j : Int) = ((i - j : Nat) : Int) by omega]
      refine sn_round (i - j, j, P' ++ Y, X2, X1, Q') ⟨rfl, rfl, rfl, rfl, rfl, trivial⟩ (Ent.refl _) ⟨by simp only [List.length_append]; omega, hX2, hX1, by dsimp only; omega, j0, ?_, by simp only [List.length_append]; omega⟩ ?_
      · rw [he]; simp only [List.append_assoc]
      · show i - j + j < i + j
        omega
    · (refine sw_seq ?_; refine sw_region ?_; (iterate 3 refine so_1 rfl ?_); refine so_2 rfl (by (unfold I64; omega)) ?_; (iterate 2 refine so_1 rfl ?_); refine so_2 rfl (by (unfold I64; omega)) ?_; refine so_1 rfl ?_; refine so_2 rfl (by (unfold I64; omega)) ?_; (iterate 2 refine so_1 rfl ?_))
      rw [show (m : Int) - (i : Int) = ((P'.length : Nat) : Int) by omega]
      skip
      rw [show (m : Int) + (j : Int) - (i : Int) = ((m + j - i : Nat) : Int) by omega]
      obtain ⟨Y1, Y2, rfl, hY1, hY2⟩ : ∃ Y1 Y2, Y = Y1 ++ Y2 ∧ Y1.length = j - i ∧ Y2.length = i := ⟨Y.take (j - i), Y.drop (j - i), (List.take_append_drop _ Y).symm, by rw [List.length_take]; omega, by rw [List.length_drop]; omega⟩
      have e1 := swR_app P' X Y1 Y2 Q' (by omega)
      rw [show P' ++ X ++ Y1 ++ Y2 ++ Q' = P' ++ X ++ (Y1 ++ Y2) ++ Q' by simp only [List.append_assoc], show P'.length + X.length + Y1.length = m + j - i by omega, hX] at e1
      have hsw := swapRange_S (b := b) (F := F) (A := A) (c := c) (n := n) (fv := fv) (D := P' ++ X ++ (Y1 ++ Y2) ++ Q') (a := P'.length) (cc := m + j - i) (m := i) (kk (by rw [he]; exact mid_perm _ _ _ _)) (by simp; omega) (by omega) (by omega) hm
      rw [e1] at hsw
      skip
      refine so_call rfl rfl rfl (hsw) ?_
      rintro _ _ rfl
      (refine so_nil ?_; refine sn_then ?_; refine sw_region ?_; (iterate 2 refine so_1 rfl ?_); refine so_2 rfl (by (unfold I64; omega)) ?_; refine so_1 rfl ?_; refine so_nil ?_; refine sn_block ?_)
      rw [show (j : Int) - (i : Int) = ((j - i : Nat) : Int) by omega]
      refine sn_round (i, j - i, P', Y2, Y1, X ++ Q') ⟨rfl, rfl, rfl, rfl, rfl, trivial⟩ ?_ ⟨hP, hY2, hY1, i0, by dsimp only; omega, ?_, by simp only [List.length_append]; omega⟩ ?_
      · rw [show P' ++ Y2 ++ Y1 ++ X ++ Q' = P' ++ Y2 ++ Y1 ++ (X ++ Q') by simp only [List.append_assoc]]
        exact Ent.refl _
      · rw [he]; simp only [List.append_assoc]
      · show i + (j - i) < i + j
        omega
  · obtain rfl : i = j := by omega
    (refine sw_exit ?_; refine sn_then_exit ?_; refine sn_loop_exit ?_; refine sn_block_exit ?_; refine sn_then ?_; refine sw_region ?_; (iterate 3 refine so_1 rfl ?_); refine so_2 rfl (by (unfold I64; omega)) ?_; (iterate 3 refine so_1 rfl ?_))
    rw [show (m : Int) - (i : Int) = ((P'.length : Nat) : Int) by omega]
    have e1 := swR_app P' X [] Y Q' (by omega)
    rw [show P' ++ X ++ [] ++ Y ++ Q' = P' ++ X ++ Y ++ Q' by simp only [List.append_assoc, List.nil_append], show P'.length + X.length + ([] : List (Nat × Ev)).length = m by simp; omega, hX, show P' ++ Y ++ [] ++ X ++ Q' = T by rw [he]; simp only [List.append_assoc, List.nil_append]] at e1
    have hsw := swapRange_S (b := b) (F := F) (A := A) (c := c) (n := n) (fv := fv) (D := P' ++ X ++ Y ++ Q') (a := P'.length) (cc := m) (m := i) (kk (by rw [he]; exact mid_perm _ _ _ _)) (by simp; omega) (by omega) (by omega) hm
    rw [e1] at hsw
    skip
    refine so_call rfl rfl rfl (hsw) ?_
    rintro _ _ rfl
    (refine so_nil ?_)
    refine sn_end rfl .nil (Ent.refl _) ?_
    rfl
end
end Go.Proofs.YtaglpaoipdmboaaGreat
/- Stable sorting, part six: sorting by insertion. Conditions: none. -/
namespace Go.Proofs.YtaglpaoipdmboaaGreat
open Go Go.Eng Go.RowKit

theorem adj_dn {α : Type} (A : List α) (s x : α) (R : List α) : ((A ++ s :: x :: R).set (A.length + 1) s).set A.length x = A ++ x :: s :: R := by
  induction A with
  | nil => rfl
  | cons a A ih => simp only [List.cons_append, List.length_cons, List.set_cons_succ, ih]
theorem adj_up {α : Type} (A : List α) (x y : α) (R : List α) : ((A ++ x :: y :: R).set A.length y).set (A.length + 1) x = A ++ y :: x :: R := by
  induction A with
  | nil => rfl
  | cons a A ih => simp only [List.cons_append, List.length_cons, List.set_cons_succ, ih]
theorem at_len {α : Type} (A : List α) (x : α) (R : List α) : (A ++ x :: R)[A.length]? = some x := by simp
theorem at_len1 {α : Type} (A : List α) (s x : α) (R : List α) : (A ++ s :: x :: R)[A.length + 1]? = some x := by
  rw [List.getElem?_append_right (by omega)]; simp
theorem oks_all {β : Type} (l : List (Nat × β)) : Oks (fun _ => True) l := fun _ _ => trivial
theorem ins_step {L L1 T' S1 S2 : List (Nat × Ev)} {x : Nat × Ev} (hL : L = L1 ++ x :: T') (hp : L.Pairwise fun x y => x.1 < y.1) (hM : (S1 ++ S2).Perm L1) (hs : Srt evLt (S1 ++ S2)) (h1 : ∀ s S', S1 = S' ++ [s] → evLt x.2 s.2 = false) (h2 : ∀ t T'', S2 = t :: T'' → evLt x.2 t.2 = true) :
    (S1 ++ x :: S2).Perm (L1 ++ [x]) ∧ Srt evLt (S1 ++ x :: S2) ∧ L = (L1 ++ [x]) ++ T' := by
  refine ⟨?_, ?_, by rw [hL]; simp⟩
  · exact List.perm_middle.trans ((List.Perm.cons x hM).trans (List.perm_append_singleton x L1).symm)
  · refine ins_ok swo_evLt (oks_all _) hs (fun s S' e => tl_of (h1 s S' e) ?_) (fun t T'' e => .inl (h2 t T'' e))
    subst hL
    exact (List.pairwise_append.1 hp).2.2 s (hM.mem_iff.1 (by rw [e]; simp)) x (by simp)
theorem ins_perm {P L L1 T' S1 S2 B : List (Nat × Ev)} {x : Nat × Ev} (hL : L = L1 ++ x :: T') (hM : (S1 ++ S2).Perm L1) : (P ++ S1 ++ (x :: (S2 ++ (T' ++ B)))).Perm (P ++ L ++ B) := by
  have h1 : (S1 ++ x :: S2).Perm (L1 ++ [x]) := List.perm_middle.trans ((List.Perm.cons x hM).trans (List.perm_append_singleton x L1).symm)
  have e1 : P ++ S1 ++ (x :: (S2 ++ (T' ++ B))) = P ++ ((S1 ++ x :: S2) ++ (T' ++ B)) := by simp
  have e2 : P ++ L ++ B = P ++ ((L1 ++ [x]) ++ (T' ++ B)) := by rw [hL]; simp
  rw [e1, e2]
  exact (h1.append_right _).append_left P
abbrev cmpF : Value := .func (.func n_event_place_compare) ⟨[]⟩ ⟨[]⟩
section
variable {b : World} {F : List SP} {A : Option Addr} {c n : Nat}
set_option maxRecDepth 20000 in
set_option maxHeartbeats 4000000 in
theorem insertion_S {P L B : List (Nat × Ev)} {a z : Nat} (hE : ∀ m ∈ P ++ L ++ B, ∀ w, Sat b F w → ER w m.2) (hK : ∀ m ∈ P ++ L ++ B, EvK m.2) (hn : (P ++ L ++ B).length = n) (hm : n ≤ 100000) (ha : P.length = a) (hz : a + L.length = z) (hp : L.Pairwise fun x y => x.1 < y.1) :
    SC Tryz.prog n_slices_insertionSortCmpFunc_event_place [.slice A n c, .int .i64 a, .int .i64 z, cmpF] b (rPl A c n (P ++ L ++ B) :: F) (fun _ F' => ∃ M, M.Perm L ∧ Srt evLt M ∧ F' = rPl A c n (P ++ M ++ B) :: F) := by
  have bn : a + L.length + B.length = n := by simp only [List.length_append] at hn; omega
  refine enterS F_slices_insertionSortCmpFunc_event_place rfl rfl rfl ?_
  refine sw_fact (fun w H => (H.oat (k := 0) rfl).form) ?_
  rintro ⟨A', c', hv, k1, k2, k3⟩
  cases hv
  (refine sw_seq ?_; refine sw_region ?_; refine so_1 rfl ?_; refine so_2 rfl (by (unfold I64; omega)) ?_; refine so_1 rfl ?_; refine so_nil ?_; refine sn_then ?_; refine sw_block ?_)
  cases L with
  | nil =>
    refine sw_loop (S := Unit) (fun _ => [(0, .slice A n c), (1, .int .i64 a), (2, .int .i64 z), (3, cmpF), (8, .int .i64 ((a : Int) + 1))]) (fun _ => rPl A c n (P ++ [] ++ B) :: F) (fun _ => True) (fun _ => 0) () ⟨rfl, rfl, rfl, rfl, rfl, trivial⟩ (Ent.refl _) trivial ?_
    intro _ _
    ((iterate 2 refine sw_seq ?_); refine sw_region ?_; (iterate 3 refine so_1 rfl ?_); refine so_nil ?_; refine sn_then ?_)
    refine sw_if rfl (fun h => ?_) (fun h => ?_)
    · simp only [List.length_nil] at hz; omega
    · (refine sw_exit ?_; refine sn_then_exit ?_; refine sn_loop_exit ?_; refine sn_block_exit ?_)
      refine sn_end rfl .nil (Ent.refl _) ?_
      exact ⟨[], List.Perm.refl _, List.Pairwise.nil, rfl⟩
  | cons x0 L0 =>
  have e0 : P ++ x0 :: L0 ++ B = P ++ [x0] ++ (L0 ++ B) := by simp
  refine sw_loop (S := Nat × List (Nat × Ev) × List (Nat × Ev)) (fun s => [(0, .slice A n c), (1, .int .i64 a), (2, .int .i64 z), (3, cmpF), (8, .int .i64 (s.1 : Int))]) (fun s => rPl A c n (P ++ s.2.1 ++ (s.2.2 ++ B)) :: F)
    (fun s => ∃ L1, x0 :: L0 = L1 ++ s.2.2 ∧ s.2.1.Perm L1 ∧ Srt evLt s.2.1 ∧ a + s.2.1.length = s.1) (fun s => s.2.2.length) (a + 1, [x0], L0) ⟨rfl, rfl, rfl, rfl, rfl, trivial⟩ (by rw [e0]; exact Ent.refl _)
    ⟨[x0], rfl, List.Perm.refl _, List.pairwise_singleton _ _, rfl⟩ ?_
  rintro ⟨i, M, T⟩ ⟨L1, hL, hM, hs, hi⟩
  dsimp only at hL hM hs hi ⊢
  have hMl := hM.length_eq
  have hLl : (x0 :: L0).length = L1.length + T.length := by rw [hL, List.length_append]
  ((iterate 2 refine sw_seq ?_); refine sw_region ?_; (iterate 3 refine so_1 rfl ?_); refine so_nil ?_; refine sn_then ?_)
  refine sw_if rfl (fun h1 => ?_) (fun h1 => ?_)
  · cases T with
    | nil => rw [List.length_nil] at hLl; omega
    | cons x T =>
    rw [List.length_cons] at hLl
    (refine sw_skip ?_; refine sn_then ?_; refine sw_seq ?_; refine sw_block ?_; refine sw_seq ?_; refine sw_region ?_; (iterate 2 refine so_1 rfl ?_); refine so_nil ?_; refine sn_then ?_; refine sw_block ?_)
    refine sw_loop (S := Nat × List (Nat × Ev) × List (Nat × Ev)) (fun s => [(0, .slice A n c), (1, .int .i64 a), (2, .int .i64 z), (3, cmpF), (8, .int .i64 (i : Int)), (9, .int .i64 (s.1 : Int))]) (fun s => rPl A c n (P ++ s.2.1 ++ (x :: (s.2.2 ++ (T ++ B)))) :: F)
      (fun s => M = s.2.1 ++ s.2.2 ∧ a + s.2.1.length = s.1 ∧ ∀ t T'', s.2.2 = t :: T'' → evLt x.2 t.2 = true) (fun s => s.2.1.length) (i, M, []) ⟨rfl, rfl, rfl, rfl, rfl, rfl, trivial⟩ (Ent.refl _) ⟨by simp, hi, fun t T'' h => by cases h⟩ ?_
    rintro ⟨j, S1, S2⟩ ⟨rfl, hj, hlt⟩
    dsimp only at hj hlt ⊢
    have hD := ins_perm (P := P) (B := B) hL hM
    have hKD := evK_perm hK hD
    have hxm : x ∈ P ++ S1 ++ (x :: (S2 ++ (T ++ B))) := by simp
    have hlenD := hD.length_eq
    rw [hn] at hlenD
    have hax : (P ++ S1 ++ (x :: (S2 ++ (T ++ B))))[j]? = some x := by
      have := at_len (P ++ S1) x (S2 ++ (T ++ B))
      rwa [List.length_append, ha, hj] at this
    have hjn : j < n := by rw [← hlenD]; exact (List.getElem?_eq_some_iff.1 hax).1
    obtain ⟨gg, oo, rfl⟩ := k3 (by omega)
    have ex := hE x (hD.mem_iff.1 hxm)
    have kx := evK_at hKD hax
    have fx := pl_seg hKD hax
    rcases List.eq_nil_or_concat S1 with rfl | ⟨S1', s, rfl⟩
    · have hja : j = a := by simpa using hj.symm
      subst hja
      refine sw_ent (Ent.refl _) ?_
      ((iterate 2 refine sw_seq ?_))
      refine sw_draw flo _ (by decide +kernel) (Ent.refl _) ?_
      ((iterate 4 refine sd_1 rfl (.inl rfl) ?_))
      refine sd_know 21 (.bool false) rfl (congrArg Value.bool (decide_eq_false (by omega))) ?_
      ((iterate 10 refine sd_1 rfl (.inl rfl) ?_); refine sd_1 rfl (.inr rfl) ?_; (iterate 2 refine sd_1 rfl (.inl rfl) ?_))
      refine sd_nil ?_
      (refine sn_then ?_; refine sw_cond_f rfl ?_; refine sw_exit ?_; refine sn_then_exit ?_; refine sn_loop_exit ?_; refine sn_block_exit ?_; refine sn_block ?_; refine sn_then ?_; refine sw_region ?_; refine so_1 rfl ?_; refine so_2 rfl (by (unfold I64; omega)) ?_; refine so_1 rfl ?_; refine so_nil ?_)
      obtain ⟨g1, g2, g3⟩ := ins_step hL hp hM hs (fun s S' e => by simp at e) hlt
      rw [show (i : Int) + 1 = ((i + 1 : Nat) : Int) by omega]
      refine sn_round (i + 1, [] ++ x :: S2, T) ⟨rfl, rfl, rfl, rfl, rfl, trivial⟩ ?_ ⟨L1 ++ [x], g3, g1, g2, ?_⟩ (by dsimp only; simp)
      · rw [show P ++ [] ++ (x :: (S2 ++ (T ++ B))) = P ++ ([] ++ x :: S2) ++ (T ++ B) by simp]; exact Ent.refl _
      · dsimp only at hi ⊢; simp at hi ⊢; omega
    · rw [List.concat_eq_append] at hj hM hs hi hD hKD hxm hlenD hax fx hMl ⊢
      have hj2 : a + S1'.length + 1 = j := by simp at hj; omega
      have e3 : P ++ (S1' ++ [s]) ++ (x :: (S2 ++ (T ++ B))) = (P ++ S1') ++ s :: x :: (S2 ++ (T ++ B)) := by simp
      have has : (P ++ (S1' ++ [s]) ++ (x :: (S2 ++ (T ++ B))))[j - 1]? = some s := by
        have := at_len (P ++ S1') s (x :: (S2 ++ (T ++ B)))
        rw [List.length_append, ha, show a + S1'.length = j - 1 by omega] at this
        rw [e3]; exact this
      have hsm := List.mem_of_getElem? has
      have es := hE s (hD.mem_iff.1 hsm)
      have ks := evK_at hKD has
      have fs := pl_seg hKD has
      have hsw : ((P ++ (S1' ++ [s]) ++ (x :: (S2 ++ (T ++ B)))).set j s).set (j - 1) x = P ++ S1' ++ (x :: (s :: S2 ++ (T ++ B))) := by
        have := adj_dn (P ++ S1') s x (S2 ++ (T ++ B))
        rw [List.length_append, ha, hj2, show a + S1'.length = j - 1 by omega, ← e3] at this
        rw [this]; simp
      have w1 := pl_set hKD ks (j := j) (by omega)
      have w2 := pl_set (evk_set hKD ks j) kx (j := j - 1) (by rw [List.length_set]; omega)
      have l1 := pl_len hKD
      have l2 := pl_len (evk_set hKD ks j)
      rw [List.length_set] at l2
      rw [hsw] at w2
      rw [hlenD] at l1 l2
      have hb1 : j * 39 + 39 ≤ n * 39 ∧ (j - 1) * 39 + 39 ≤ n * 39 := by omega
      have x1 := evC_one kx.d1 kx.r1
      have x2 := evC_one ks.d1 ks.r1
      have xl := evC_len kx.l32
      have sl := evC_len ks.l32
      have hN : ((j : Int) - 1).toNat = j - 1 := by omega
      have hst := fun q1 q2 => ins_step hL hp hM hs q1 q2
      generalize hX : P ++ (S1' ++ [s]) ++ (x :: (S2 ++ (T ++ B))) = X at *
      refine sw_ent (Ent.refl _) ?_
      ((iterate 2 refine sw_seq ?_))
      refine sw_draw flo (rPl (some ⟨gg, oo, none⟩) c n X :: F) (by decide +kernel) (Ent.refl _) ?_
      ((iterate 4 refine sd_1 rfl (.inl rfl) ?_))
      refine sd_know 21 (.bool true) rfl (congrArg Value.bool (decide_eq_true (by omega))) ?_
      ((iterate 3 refine sd_1 rfl (.inl rfl) ?_); refine sd_2 rfl rfl (by omega) ?_)
      refine sd_ldrow 0 (j * 39) rfl rfl rfl rfl rfl rfl rfl rfl (by rw [mulz_eq, Int.toNat_natCast]) (by omega) fx (by rw [xl]; rfl) ?_
      ((iterate 2 refine sd_1 rfl (.inl rfl) ?_); refine sd_2 rfl rfl (by (unfold I64; omega)) ?_; refine sd_2 rfl rfl (by omega) ?_)
      refine sd_ldrow 0 ((j - 1) * 39) rfl rfl rfl rfl rfl rfl rfl rfl (by rw [mulz_eq, hN]) (by omega) fs (by rw [sl]; rfl) ?_
      refine sd_callE rfl rfl rfl rfl ((compare_S (up ex (ent_keep 1 [] rfl rfl)) (up es (ent_keep 1 [] rfl rfl)) kx.l32 ks.l32)) (Ent.refl _) ?_
      ((iterate 2 refine sd_1 rfl (.inl rfl) ?_))
      refine sd_know 34 (.bool (evLt x.2 s.2)) rfl (congrArg Value.bool (evCmp_lt x.2 s.2)) ?_
      cases hc : evLt x.2 s.2 with
      | false =>
        skip
        refine sd_nil ?_
        (refine sn_then ?_; refine sw_cond_f rfl ?_; refine sw_exit ?_; refine sn_then_exit ?_; refine sn_loop_exit ?_; refine sn_block_exit ?_; refine sn_block ?_; refine sn_then ?_; refine sw_region ?_; refine so_1 rfl ?_; refine so_2 rfl (by (unfold I64; omega)) ?_; refine so_1 rfl ?_; refine so_nil ?_)
        obtain ⟨g1, g2, g3⟩ := hst (fun s' S'' e => by
          obtain ⟨_, e⟩ := List.append_inj' e rfl
          cases e; exact hc) hlt
        rw [show (i : Int) + 1 = ((i + 1 : Nat) : Int) by omega]
        refine sn_round (i + 1, (S1' ++ [s]) ++ x :: S2, T) ⟨rfl, rfl, rfl, rfl, rfl, trivial⟩ ?_ ⟨L1 ++ [x], g3, g1, g2, ?_⟩ (by dsimp only; simp)
        · rw [← hX, show P ++ (S1' ++ [s]) ++ (x :: (S2 ++ (T ++ B))) = P ++ (S1' ++ [s] ++ x :: S2) ++ (T ++ B) by simp]; exact Ent.refl _
        · dsimp only at hi ⊢; simp at hi ⊢; omega
      | true =>
        skip
        refine sd_nil ?_
        (refine sn_then ?_; refine sw_cond_t rfl ?_; refine sw_skip ?_; refine sn_then ?_; refine sw_seq ?_; refine sw_block ?_)
        refine sw_freeC 15 [2, 3, 4] (fl := flo) [] [(0, .slice (some ⟨gg, oo, none⟩) n c), (1, .int .i64 a), (2, .int .i64 z), (3, cmpF), (8, .int .i64 i), (9, .int .i64 j)] ⟨rfl, rfl, rfl, rfl, rfl, rfl, trivial⟩ rfl (by kernel_rfl) (by kernel_rfl) (by decide) ?_
        ((iterate 4 refine fc_p (fun _ => rfl) ?_); refine fc_c (fun _ => rfl) (by (unfold I64; omega)) ?_; (iterate 2 refine fc_p (fun _ => rfl) ?_); refine fc_c (fun _ => rfl) (by (unfold I64; omega)) ?_; refine fc_c (fun _ => rfl) (by omega) ?_)
        refine fc_nf (by simp only [List.nil_append, List.cons_append]; exact rfl) ?_
        refine fc_ldrow 0 ((j - 1) * 39) rfl rfl rfl rfl (fun _ => rfl) rfl (by rw [mulz_eq, hN]) (by omega) fs (by rw [sl]; rfl) ?_
        ((iterate 2 refine fc_p (fun _ => rfl) ?_); refine fc_c (fun _ => rfl) (by omega) ?_)
        refine fc_nf (by simp only [List.nil_append, List.cons_append]; exact rfl) ?_
        refine fc_ldrow 0 (j * 39) rfl rfl rfl rfl (fun _ => rfl) rfl (by rw [mulz_eq, Int.toNat_natCast]) (by omega) fx (by rw [xl]; rfl) ?_
        (refine fc_c (fun _ => rfl) (by omega) ?_)
        refine fc_nf (by simp only [List.nil_append, List.cons_append]; exact rfl) ?_
        refine .done rfl fun _ => ⟨ent_nil _, ?_⟩
        refine sd_strow 0 (j * 39) rfl rfl rfl rfl rfl rfl rfl rfl rfl w1 (by rw [sl]; rfl) (by rw [mulz_eq, Int.toNat_natCast]) (by rw [sl]; omega) x2 (ent_nil _) ?_
        (refine sd_2 rfl rfl (by omega) ?_)
        refine sd_strow 0 ((j - 1) * 39) rfl rfl rfl rfl rfl rfl rfl rfl rfl w2 (by rw [xl]; rfl) (by rw [mulz_eq, hN]) (by rw [xl]; omega) x1 (ent_nil _) ?_
        refine sd_nil ?_
        (refine sn_block ?_; refine sn_then ?_; refine sw_region ?_; refine so_1 rfl ?_; refine so_2 rfl (by (unfold I64; omega)) ?_; refine so_1 rfl ?_; refine so_nil ?_)
        rw [show (j : Int) - 1 = ((j - 1 : Nat) : Int) by omega]
        refine sn_round (j - 1, S1', s :: S2) ⟨rfl, rfl, rfl, rfl, rfl, rfl, trivial⟩ (Ent.refl _) ⟨by simp, ?_, fun t T'' e => ?_⟩ (by dsimp only; simp)
        · dsimp only; omega
        · cases e; exact hc
  · (refine sw_exit ?_; refine sn_then_exit ?_; refine sn_loop_exit ?_; refine sn_block_exit ?_)
    have hT : T = [] := by
      have : T.length = 0 := by omega
      exact List.eq_nil_of_length_eq_zero this
    subst hT
    rw [List.append_nil] at hL
    refine sn_end rfl .nil (Ent.refl _) ?_
    exact ⟨M, hL ▸ hM, hs, rfl⟩
end
end Go.Proofs.YtaglpaoipdmboaaGreat
/- Stable sorting, part seven: two sorted pieces joined; the plain law of what the search finds. Conditions: none. -/
namespace Go.Proofs.YtaglpaoipdmboaaGreat
open Go Go.Eng Go.RowKit

theorem mid_n {i j : Nat} (h : i + j ≤ 1000000) : IntKind.i64.wrap ((IntKind.u64.wrap ((i : Int) + (j : Int))).fdiv (2 ^ min (Int.toNat 1) IntKind.u64.bits)) = (((i + j) / 2 : Nat) : Int) := by
  have h1 : IntKind.u64.wrap ((i : Int) + (j : Int)) = (i : Int) + (j : Int) := by
    have : IntKind.u64.wrap ((i : Int) + (j : Int)) = ((i : Int) + (j : Int)) % 18446744073709551616 := rfl
    rw [this]; omega
  rw [h1, show (2 : Int) ^ min (Int.toNat 1) IntKind.u64.bits = 2 from rfl, I64.wrap (by rw [Int.fdiv_eq_ediv_of_nonneg _ (by omega)]; unfold I64; omega), Int.fdiv_eq_ediv_of_nonneg _ (by omega)]
  omega
theorem last_at {α : Type} {S S' T : List α} {s : α} (e : S = S' ++ [s]) : (S ++ T)[S.length - 1]? = some s := by
  subst e
  have := at_len S' s T
  simp
theorem first_at {α : Type} {S T T' : List α} {y : α} (e : T = y :: T') : (S ++ T)[S.length]? = some y := by
  subst e; exact at_len S y T'
section
variable {x : Nat × Ev} {S T : List (Nat × Ev)}
theorem one_left (hs : Srt evLt (S ++ T)) (ha : Ahead [x] (S ++ T)) (h1 : S.length = 0 ∨ ∃ y, (S ++ T)[S.length - 1]? = some y ∧ evLt y.2 x.2 = true) (h2 : T.length = 0 ∨ ∃ y, (S ++ T)[S.length]? = some y ∧ evLt y.2 x.2 = false) : Srt evLt (S ++ x :: T) := by
  refine ins_ok swo_evLt (oks_all _) hs (fun s S' e => ?_) (fun y T' e => ?_)
  · rcases h1 with h1 | ⟨y, h1, h3⟩
    · rw [e] at h1; simp at h1
    · rw [last_at e] at h1; cases h1; exact .inl h3
  · rcases h2 with h2 | ⟨z, h2, h3⟩
    · rw [e] at h2; simp at h2
    · rw [first_at e] at h2; cases h2
      exact tl_of h3 (ha x (by simp) y (by rw [e]; simp))
theorem one_right (hs : Srt evLt (S ++ T)) (ha : Ahead (S ++ T) [x]) (h1 : S.length = 0 ∨ ∃ y, (S ++ T)[S.length - 1]? = some y ∧ evLt x.2 y.2 = false) (h2 : T.length = 0 ∨ ∃ y, (S ++ T)[S.length]? = some y ∧ evLt x.2 y.2 = true) : Srt evLt (S ++ x :: T) := by
  refine ins_ok swo_evLt (oks_all _) hs (fun s S' e => ?_) (fun y T' e => ?_)
  · rcases h1 with h1 | ⟨y, h1, h3⟩
    · rw [e] at h1; simp at h1
    · rw [last_at e] at h1; cases h1
      exact tl_of h3 (ha s (by rw [e]; simp) x (by simp))
  · rcases h2 with h2 | ⟨z, h2, h3⟩
    · rw [e] at h2; simp at h2
    · rw [first_at e] at h2; cases h2; exact .inl h3
end
/-- A list cut at a length. -/
theorem cut_at {α : Type} (L : List α) {k : Nat} (h : k ≤ L.length) : ∃ L1 L2, L = L1 ++ L2 ∧ L1.length = k ∧ L2.length = L.length - k := ⟨L.take k, L.drop k, (List.take_append_drop k L).symm, by rw [List.length_take]; omega, by rw [List.length_drop]⟩
theorem cut_cons {α : Type} {T : List α} (h : 0 < T.length) : ∃ y T', T = y :: T' := by
  cases T with
  | nil => simp at h
  | cons y T' => exact ⟨y, T', rfl⟩
theorem cut_snoc {α : Type} {S : List α} (h : 0 < S.length) : ∃ S' y, S = S' ++ [y] := by
  rcases List.eq_nil_or_concat S with e | ⟨S', y, e⟩
  · subst e; simp at h
  · exact ⟨S', y, by rw [e, List.concat_eq_append]⟩
/-- What stands in the middle of four. -/
theorem in2 {α : Type} (P L R B : List α) {j : Nat} (h : j < L.length) : (P ++ L ++ R ++ B)[P.length + j]? = L[j]? := by
  simp only [List.append_assoc]
  rw [List.getElem?_append_right (by omega), List.getElem?_append_left (by omega)]
  congr 1; omega
theorem in3 {α : Type} (P L R B : List α) {j : Nat} (h : j < R.length) : (P ++ L ++ R ++ B)[P.length + L.length + j]? = R[j]? := by
  simp only [List.append_assoc]
  rw [List.getElem?_append_right (by omega), List.getElem?_append_right (by omega), List.getElem?_append_left (by omega)]
  congr 1; omega
/-- What the search has found. -/
structure SeI (D : List (Nat × Ev)) (n s0 r0 s r : Nat) : Prop where
  lo : s0 ≤ s
  mi : s ≤ r
  hi : r ≤ r0
  h1 : s = s0 ∨ ∃ x y, D[s - 1]? = some x ∧ D[n - s]? = some y ∧ evLt y.2 x.2 = false
  h2 : r = r0 ∨ ∃ x y, D[r]? = some x ∧ D[n - 1 - r]? = some y ∧ evLt y.2 x.2 = true
theorem sym_cut {P L R B L1 L2 R1 R2 : List (Nat × Ev)} {a m z n s0 r0 s : Nat} (h : SeI (P ++ L ++ R ++ B) n s0 r0 s s) (hL : L = L1 ++ L2) (hR : R = R1 ++ R2) (ha : P.length = a) (hm : a + L.length = m) (hz : m + R.length = z)
    (l1 : a + L1.length = s) (l2 : m + R1.length = n - s) (hn : s ≤ n) (c1 : r0 = m ∨ n - r0 = m) (c2 : s0 = a ∨ n - s0 = z) :
    (∀ x R' y L', R1 = R' ++ [x] → L2 = y :: L' → evLt x.2 y.2 = true) ∧ (∀ x L' y R', L1 = L' ++ [x] → R2 = y :: R' → evLt y.2 x.2 = false) := by
  have hLl : L.length = L1.length + L2.length := by rw [hL, List.length_append]
  have hRl : R.length = R1.length + R2.length := by rw [hR, List.length_append]
  refine ⟨fun x R' y L' e1 e2 => ?_, fun x L' y R' e1 e2 => ?_⟩
  · have q1 : R1.length = R'.length + 1 := by rw [e1]; simp
    have q2 : L2.length = L'.length + 1 := by rw [e2]; simp
    rcases h.h2 with h2 | ⟨u, v, h2, h3, h4⟩
    · omega
    · have f1 := in2 P L R B (j := L1.length) (by omega)
      have f2 := in3 P L R B (j := R1.length - 1) (by omega)
      rw [show P.length + L1.length = s by omega, h2, hL, first_at e2] at f1
      rw [show P.length + L.length + (R1.length - 1) = n - 1 - s by omega, h3, hR, last_at e1] at f2
      cases f1; cases f2; exact h4
  · have q1 : L1.length = L'.length + 1 := by rw [e1]; simp
    have q2 : R2.length = R'.length + 1 := by rw [e2]; simp
    rcases h.h1 with h2 | ⟨u, v, h2, h3, h4⟩
    · omega
    · have f1 := in2 P L R B (j := L1.length - 1) (by omega)
      have f2 := in3 P L R B (j := R1.length) (by omega)
      rw [show P.length + (L1.length - 1) = s - 1 by omega, h2, hL, last_at e1] at f1
      rw [show P.length + L.length + R1.length = n - s by omega, h3, hR, first_at e2] at f2
      cases f1; cases f2; exact h4
theorem srt_of_nil {L R : List (Nat × Ev)} (hL : Srt evLt L) (hR : Srt evLt R) (h : L.length = 0 ∨ R.length = 0) : Srt evLt (L ++ R) := by
  rcases h with h | h
  · rw [List.eq_nil_of_length_eq_zero h, List.nil_append]; exact hR
  · rw [List.eq_nil_of_length_eq_zero h, List.append_nil]; exact hL
end Go.Proofs.YtaglpaoipdmboaaGreat
/- Stable sorting, part eight: two sorted pieces joined, walked. Conditions: none. -/
namespace Go.Proofs.YtaglpaoipdmboaaGreat
open Go Go.Eng Go.RowKit

/-- Ways come together again behind what a region goes on to. -/
theorem so_cutT {P : Program} {ro : Option Nat} {N : Nat} {Q : Exit → Act → World → Prop} {E : List (Nat × Value)} {ds : List Deferred} {b : World} {F : List SP} {c y : Code} {l rest : List Oper} {S : Type} (Em : S → List (Nat × Value)) (Fm : S → List SP) (I : S → Prop) (hy : ∀ s, I s → SW P ro N y Q (Em s) ds b (Fm s))
    (hc : (∀ s E' F', I s → Sub (Em s) E' → Ent F' (Fm s) → SN N (Then P ro y Q) .normal E' ds b F') → SO P ro N l rest (Then P ro c (Then P ro y Q)) E ds b F) : SO P ro N l rest (Then P ro c (Then P ro y Q)) E ds b F :=
  hc fun s _ _ hI hs he => sn_then (sw_sub hs (sw_ent he (hy s hI)))
section
variable {b : World} {F : List SP} {c n : Nat}
set_option maxRecDepth 20000 in
set_option maxHeartbeats 8000000 in
theorem symMerge_S : ∀ (k : Nat) {A : Option Addr} {P L R B : List (Nat × Ev)} {a m z : Nat}, L.length + R.length ≤ k → (∀ x ∈ P ++ L ++ R ++ B, ∀ w, Sat b F w → ER w x.2) → (∀ x ∈ P ++ L ++ R ++ B, EvK x.2) → (P ++ L ++ R ++ B).length = n → n ≤ 100000 → P.length = a → a + L.length = m → m + R.length = z →
    0 < L.length → 0 < R.length → Srt evLt L → Srt evLt R → Ahead L R →
    SC Tryz.prog n_slices_symMergeCmpFunc_event_place [.slice A n c, .int .i64 a, .int .i64 m, .int .i64 z, cmpF] b (rPl A c n (P ++ L ++ R ++ B) :: F) (fun _ F' => ∃ M, M.Perm (L ++ R) ∧ Srt evLt M ∧ F' = rPl A c n (P ++ M ++ B) :: F)
  | 0, A, P, L, R, B, a, m, z, hk, hE, hK, hn, hm, ha, hL, hR, l0, r0, sL, sR, hA => by omega
  | k + 1, A, P, L, R, B, a, m, z, hk, hE, hK, hn, hm, ha, hL, hR, l0, r0, sL, sR, hA => by
    have bn : a + L.length + R.length + B.length = n := by simp only [List.length_append] at hn; omega
    refine enterS F_slices_symMergeCmpFunc_event_place rfl rfl rfl ?_
    refine sw_fact (fun w H => (H.oat (k := 0) rfl).form) ?_
    rintro ⟨A', c', hv, k1, k2, k3⟩
    cases hv
    obtain ⟨gg, oo, rfl⟩ := k3 (by omega)
    ((iterate 2 refine sw_seq ?_); refine sw_region ?_; (iterate 2 refine so_1 rfl ?_); refine so_2 rfl (by (unfold I64; omega)) ?_; refine so_1 rfl ?_; refine so_nil ?_; refine sn_then ?_)
    refine sw_if rfl (fun q1 => ?_) (fun q1 => ?_)
    · -- one on the left
      have hl1 : L.length = 1 := by omega
      obtain ⟨x, hx⟩ := List.length_eq_one_iff.1 hl1
      have hDa : (P ++ L ++ R ++ B)[a]? = some x := by
        have := in2 P L R B (j := 0) (by omega)
        rw [hx] at this ⊢
        rw [Nat.add_zero, ha] at this
        exact this
      have hDr : ∀ j, j < R.length → (P ++ L ++ R ++ B)[m + j]? = R[j]? := fun j hj => by
        have := in3 P L R B hj
        rwa [show P.length + L.length = m by omega] at this
      have e00 : P ++ L ++ R ++ B = P ++ [] ++ (x :: (R ++ B)) := by rw [hx]; simp
      generalize hX : P ++ L ++ R ++ B = X at *
      have ex := hE x (List.mem_of_getElem? hDa)
      have kx := evK_at hK hDa
      have fx := pl_seg hK hDa
      have xl := evC_len kx.l32
      (refine sw_seq ?_; refine sw_region ?_; (iterate 2 refine so_1 rfl ?_); refine so_nil ?_; refine sn_then ?_; refine sw_seq ?_; refine sw_region ?_; (iterate 2 refine so_1 rfl ?_); refine so_nil ?_; refine sn_then ?_; refine sw_seq ?_; refine sw_block ?_)
      refine sw_loop (S := Nat × Nat) (fun s => [(0, .slice (some ⟨gg, oo, none⟩) n c), (1, .int .i64 a), (4, cmpF), (10, .int .i64 s.1), (11, .int .i64 s.2)]) (fun _ => rPl (some ⟨gg, oo, none⟩) c n X :: F)
        (fun s => m ≤ s.1 ∧ s.1 ≤ s.2 ∧ s.2 ≤ z ∧ (s.1 = m ∨ ∃ y, R[s.1 - m - 1]? = some y ∧ evLt y.2 x.2 = true) ∧ (s.2 = z ∨ ∃ y, R[s.2 - m]? = some y ∧ evLt y.2 x.2 = false)) (fun s => s.2 - s.1) (m, z) ⟨rfl, rfl, rfl, rfl, rfl, trivial⟩ (Ent.refl _) ⟨Nat.le_refl _, by dsimp only; omega, Nat.le_refl _, .inl rfl, .inl rfl⟩ ?_
      rintro ⟨i, j⟩ ⟨b1, b2, b3, b4, b5⟩
      dsimp only at b1 b2 b3 b4 b5 ⊢
      ((iterate 2 refine sw_seq ?_); refine sw_region ?_; (iterate 3 refine so_1 rfl ?_); refine so_nil ?_; refine sn_then ?_)
      refine sw_if rfl (fun q2 => ?_) (fun q2 => ?_)
      · (refine sw_skip ?_; refine sn_then ?_; refine sw_block ?_; refine sw_seq ?_; refine sw_region ?_; (iterate 2 refine so_1 rfl ?_); refine so_2 rfl (by (unfold I64; omega)) ?_; refine so_1 rfl ?_; refine so_2 rfl (by omega) ?_; (iterate 2 refine so_1 rfl ?_); refine so_nil ?_; refine sn_then ?_; refine sw_seq ?_)
        rw [mid_n (by omega)]
        obtain ⟨h, hh⟩ : ∃ h, h = (i + j) / 2 := ⟨_, rfl⟩
        rw [← hh]
        have h3 : i ≤ h ∧ h < j := by omega
        obtain ⟨y, hy⟩ : ∃ y, R[h - m]? = some y := ⟨_, List.getElem?_eq_getElem (by omega)⟩
        have hDh : X[h]? = some y := by
          have := hDr (h - m) (by omega)
          rwa [show m + (h - m) = h by omega, hy] at this
        have ey := hE y (List.mem_of_getElem? hDh)
        have ky := evK_at hK hDh
        have fy := pl_seg hK hDh
        have yl := evC_len ky.l32
        skip
        refine sw_draw flo (rPl (some ⟨gg, oo, none⟩) c n X :: F) (by decide +kernel) (Ent.refl _) ?_
        ((iterate 3 refine sd_1 rfl (.inl rfl) ?_); refine sd_2 rfl rfl (by omega) ?_)
        refine sd_ldrow 0 (h * 39) rfl rfl rfl rfl rfl rfl rfl rfl (by rw [mulz_eq, Int.toNat_natCast]) (by omega) fy (by rw [yl]; rfl) ?_
        ((iterate 2 refine sd_1 rfl (.inl rfl) ?_); refine sd_2 rfl rfl (by omega) ?_)
        refine sd_ldrow 0 (a * 39) rfl rfl rfl rfl rfl rfl rfl rfl (by rw [mulz_eq, Int.toNat_natCast]) (by omega) fx (by rw [xl]; rfl) ?_
        refine sd_callE rfl rfl rfl rfl ((compare_S (up ey (ent_keep 1 [] rfl rfl)) (up ex (ent_keep 1 [] rfl rfl)) ky.l32 kx.l32)) (Ent.refl _) ?_
        (refine sd_1 rfl (.inl rfl) ?_)
        refine sd_know 50 (.bool (evLt y.2 x.2)) rfl (congrArg Value.bool (evCmp_lt y.2 x.2)) ?_
        refine sd_nil ?_
        cases hc : evLt y.2 x.2 with
        | true =>
          (refine sn_then ?_; refine sw_cond_t rfl ?_; refine sw_region ?_; refine so_1 rfl ?_; refine so_2 rfl (by (unfold I64; omega)) ?_; refine so_1 rfl ?_; refine so_nil ?_; refine sn_block ?_)
          rw [show (h : Int) + 1 = ((h + 1 : Nat) : Int) by omega]
          refine sn_round (h + 1, j) ⟨rfl, rfl, rfl, rfl, rfl, trivial⟩ (Ent.refl _) ⟨by dsimp only; omega, by dsimp only; omega, b3, .inr ⟨y, ?_, hc⟩, b5⟩ (by dsimp only; omega)
          dsimp only
          rw [show h + 1 - m - 1 = h - m by omega]; exact hy
        | false =>
          (refine sn_then ?_; refine sw_cond_f rfl ?_; refine sw_region ?_; (iterate 2 refine so_1 rfl ?_); refine so_nil ?_; refine sn_block ?_)
          refine sn_round (i, h) ⟨rfl, rfl, rfl, rfl, rfl, trivial⟩ (Ent.refl _) ⟨b1, by dsimp only; omega, by dsimp only; omega, b4, .inr ⟨y, hy, hc⟩⟩ (by dsimp only; omega)
      · obtain rfl : i = j := by omega
        (refine sw_exit ?_; refine sn_then_exit ?_; refine sn_loop_exit ?_; refine sn_block_exit ?_; refine sn_then ?_; (iterate 2 refine sw_seq ?_); refine sw_region ?_; (iterate 2 refine so_1 rfl ?_); refine so_nil ?_; refine sn_then ?_; refine sw_block ?_)
        refine sw_loop (S := Nat × List (Nat × Ev) × List (Nat × Ev)) (fun s => [(0, .slice (some ⟨gg, oo, none⟩) n c), (1, .int .i64 a), (10, .int .i64 i), (13, .int .i64 s.1)]) (fun s => rPl (some ⟨gg, oo, none⟩) c n (P ++ s.2.1 ++ (x :: (s.2.2 ++ B))) :: F)
          (fun s => R = s.2.1 ++ s.2.2 ∧ a + s.2.1.length = s.1 ∧ s.1 + 1 ≤ i) (fun s => s.2.2.length) (a, [], R) ⟨rfl, rfl, rfl, rfl, trivial⟩ (by rw [e00]; exact Ent.refl _) ⟨rfl, rfl, by dsimp only; omega⟩ ?_
        rintro ⟨q, S, T⟩ ⟨hST, hq, hqi⟩
        dsimp only at hST hq hqi ⊢
        have hST2 : R.length = S.length + T.length := by rw [hST, List.length_append]
        ((iterate 2 refine sw_seq ?_); refine sw_region ?_; (iterate 2 refine so_1 rfl ?_); refine so_2 rfl (by (unfold I64; omega)) ?_; refine so_1 rfl ?_; refine so_nil ?_; refine sn_then ?_)
        refine sw_if rfl (fun q2 => ?_) (fun q2 => ?_)
        · obtain ⟨y, T', rfl⟩ := cut_cons (T := T) (by omega)
          rw [List.length_cons] at hST2
          have hperm : (P ++ S ++ (x :: (y :: T' ++ B))).Perm X := by
            rw [e00, hST, List.append_assoc, List.append_assoc P []]
            refine List.Perm.append_left P ?_
            have : S ++ x :: (y :: T' ++ B) = (S ++ x :: (y :: T')) ++ B := by simp
            rw [this]
            have : [] ++ x :: (S ++ y :: T' ++ B) = (x :: (S ++ y :: T')) ++ B := by simp
            rw [this]
            exact List.perm_middle.append_right B
          have hKD := evK_perm hK hperm
          have hlenD := hperm.length_eq
          rw [hn] at hlenD
          have d1 : (P ++ S ++ (x :: (y :: T' ++ B)))[q]? = some x := by
            have := at_len (P ++ S) x (y :: T' ++ B)
            rwa [List.length_append, ha, hq] at this
          have d2 : (P ++ S ++ (x :: (y :: T' ++ B)))[q + 1]? = some y := by
            have := at_len1 (P ++ S) x y (T' ++ B)
            rwa [List.length_append, ha, hq] at this
          have hsw : ((P ++ S ++ (x :: (y :: T' ++ B))).set q y).set (q + 1) x = P ++ (S ++ [y]) ++ (x :: (T' ++ B)) := by
            have := adj_up (P ++ S) x y (T' ++ B)
            rw [List.length_append, ha, hq] at this
            rw [List.cons_append, this]; simp
          have kx' := evK_at hKD d1
          have ky := evK_at hKD d2
          have f1 := pl_seg hKD d1
          have f2 := pl_seg hKD d2
          have w1 := pl_set hKD ky (j := q) (by omega)
          have w2 := pl_set (evk_set hKD ky q) kx' (j := q + 1) (by rw [List.length_set]; omega)
          have l1 := pl_len hKD
          have l2 := pl_len (evk_set hKD ky q)
          rw [List.length_set] at l2
          rw [hsw] at w2
          rw [hlenD] at l1 l2
          have hb1 : q * 39 + 39 ≤ n * 39 ∧ (q + 1) * 39 + 39 ≤ n * 39 := by omega
          have x1 := evC_one kx.d1 kx.r1
          have x2 := evC_one ky.d1 ky.r1
          have yl := evC_len ky.l32
          have hN : ((q : Int) + 1).toNat = q + 1 := by omega
          clear hsw d1 d2
          generalize P ++ S ++ (x :: (y :: T' ++ B)) = Y at *
          (refine sw_skip ?_; refine sn_then ?_; refine sw_seq ?_; refine sw_block ?_)
          refine sw_freeC 15 [2, 3, 4] (fl := flo) [] [(0, .slice (some ⟨gg, oo, none⟩) n c), (1, .int .i64 a), (10, .int .i64 i), (13, .int .i64 q)] ⟨rfl, rfl, rfl, rfl, trivial⟩ rfl (by kernel_rfl) (by kernel_rfl) (by decide) ?_
          ((iterate 4 refine fc_p (fun _ => rfl) ?_); refine fc_c (fun _ => rfl) (by (unfold I64; omega)) ?_; (iterate 2 refine fc_p (fun _ => rfl) ?_); refine fc_c (fun _ => rfl) (by (unfold I64; omega)) ?_; refine fc_c (fun _ => rfl) (by omega) ?_)
          refine fc_nf (by simp only [List.nil_append, List.cons_append]; exact rfl) ?_
          refine fc_ldrow 0 ((q + 1) * 39) rfl rfl rfl rfl (fun _ => rfl) rfl (by rw [mulz_eq, hN]) (by omega) f2 (by rw [yl]; rfl) ?_
          ((iterate 2 refine fc_p (fun _ => rfl) ?_); refine fc_c (fun _ => rfl) (by omega) ?_)
          refine fc_nf (by simp only [List.nil_append, List.cons_append]; exact rfl) ?_
          refine fc_ldrow 0 (q * 39) rfl rfl rfl rfl (fun _ => rfl) rfl (by rw [mulz_eq, Int.toNat_natCast]) (by omega) f1 (by rw [xl]; rfl) ?_
          (refine fc_c (fun _ => rfl) (by omega) ?_)
          refine fc_nf (by simp only [List.nil_append, List.cons_append]; exact rfl) ?_
          refine .done rfl fun _ => ⟨ent_nil _, ?_⟩
          refine sd_strow 0 (q * 39) rfl rfl rfl rfl rfl rfl rfl rfl rfl w1 (by rw [yl]; rfl) (by rw [mulz_eq, Int.toNat_natCast]) (by rw [yl]; omega) x2 (ent_nil _) ?_
          (refine sd_2 rfl rfl (by omega) ?_)
          refine sd_strow 0 ((q + 1) * 39) rfl rfl rfl rfl rfl rfl rfl rfl rfl w2 (by rw [xl]; rfl) (by rw [mulz_eq, hN]) (by rw [xl]; omega) x1 (ent_nil _) ?_
          refine sd_nil ?_
          (refine sn_block ?_; refine sn_then ?_; refine sw_region ?_; refine so_1 rfl ?_; refine so_2 rfl (by (unfold I64; omega)) ?_; refine so_1 rfl ?_; refine so_nil ?_)
          rw [show (q : Int) + 1 = ((q + 1 : Nat) : Int) by omega]
          exact sn_round (q + 1, S ++ [y], T') ⟨rfl, rfl, rfl, rfl, trivial⟩ (Ent.refl _) ⟨by rw [hST]; simp, by dsimp only; rw [List.length_append]; simp; omega, by dsimp only; omega⟩ (by dsimp only; simp)
        · (refine sw_exit ?_; refine sn_then_exit ?_; refine sn_loop_exit ?_; refine sn_block_exit ?_; refine sn_then ?_; refine sw_ret ?_; refine sn_then_ret ?_)
          refine sn_ret rfl (.nil) (Ent.refl _) ?_
          have hSi : S.length = i - m := by omega
          refine ⟨S ++ x :: T, ?_, ?_, ?_⟩
          · rw [hx, hST]; exact List.perm_middle
          · subst hST
            refine one_left sR (by rw [← hx]; exact hA) ?_ ?_
            · rcases b4 with h | h
              · exact .inl (by omega)
              · right; rw [hSi]; exact h
            · rcases b5 with h | h
              · exact .inl (by omega)
              · right; rw [hSi]; exact h
          · simp
    · (refine sw_skip ?_; refine sn_then ?_; (iterate 2 refine sw_seq ?_); refine sw_region ?_; (iterate 2 refine so_1 rfl ?_); refine so_2 rfl (by (unfold I64; omega)) ?_; refine so_1 rfl ?_; refine so_nil ?_; refine sn_then ?_)
      refine sw_if rfl (fun q2 => ?_) (fun q2 => ?_)
      · -- one on the right
        have hr1 : R.length = 1 := by omega
        obtain ⟨x, hx⟩ := List.length_eq_one_iff.1 hr1
        have hDa : (P ++ L ++ R ++ B)[m]? = some x := by
          have := in3 P L R B (j := 0) (by omega)
          rw [hx] at this ⊢
          rw [Nat.add_zero, show P.length + L.length = m by omega] at this
          exact this
        have hDr : ∀ j, j < L.length → (P ++ L ++ R ++ B)[a + j]? = L[j]? := fun j hj => by
          have := in2 P L R B hj
          rwa [ha] at this
        have e00 : P ++ L ++ R ++ B = P ++ L ++ (x :: ([] ++ B)) := by rw [hx]; simp
        generalize hX : P ++ L ++ R ++ B = X at *
        have ex := hE x (List.mem_of_getElem? hDa)
        have kx := evK_at hK hDa
        have fx := pl_seg hK hDa
        have xl := evC_len kx.l32
        (refine sw_seq ?_; refine sw_region ?_; (iterate 2 refine so_1 rfl ?_); refine so_nil ?_; refine sn_then ?_; refine sw_seq ?_; refine sw_region ?_; (iterate 2 refine so_1 rfl ?_); refine so_nil ?_; refine sn_then ?_; refine sw_seq ?_; refine sw_block ?_)
        refine sw_loop (S := Nat × Nat) (fun s => [(0, .slice (some ⟨gg, oo, none⟩) n c), (2, .int .i64 m), (4, cmpF), (14, .int .i64 s.1), (15, .int .i64 s.2)]) (fun _ => rPl (some ⟨gg, oo, none⟩) c n X :: F)
          (fun s => a ≤ s.1 ∧ s.1 ≤ s.2 ∧ s.2 ≤ m ∧ (s.1 = a ∨ ∃ y, L[s.1 - a - 1]? = some y ∧ evLt x.2 y.2 = false) ∧ (s.2 = m ∨ ∃ y, L[s.2 - a]? = some y ∧ evLt x.2 y.2 = true)) (fun s => s.2 - s.1) (a, m) ⟨rfl, rfl, rfl, rfl, rfl, trivial⟩ (Ent.refl _) ⟨Nat.le_refl _, by dsimp only; omega, Nat.le_refl _, .inl rfl, .inl rfl⟩ ?_
        rintro ⟨i, j⟩ ⟨b1, b2, b3, b4, b5⟩
        dsimp only at b1 b2 b3 b4 b5 ⊢
        ((iterate 2 refine sw_seq ?_); refine sw_region ?_; (iterate 3 refine so_1 rfl ?_); refine so_nil ?_; refine sn_then ?_)
        refine sw_if rfl (fun q2 => ?_) (fun q2 => ?_)
        · (refine sw_skip ?_; refine sn_then ?_; refine sw_block ?_; refine sw_seq ?_; refine sw_region ?_; (iterate 2 refine so_1 rfl ?_); refine so_2 rfl (by (unfold I64; omega)) ?_; refine so_1 rfl ?_; refine so_2 rfl (by omega) ?_; (iterate 2 refine so_1 rfl ?_); refine so_nil ?_; refine sn_then ?_; refine sw_seq ?_)
          rw [mid_n (by omega)]
          obtain ⟨h, hh⟩ : ∃ h, h = (i + j) / 2 := ⟨_, rfl⟩
          rw [← hh]
          have h3 : i ≤ h ∧ h < j := by omega
          obtain ⟨y, hy⟩ : ∃ y, L[h - a]? = some y := ⟨_, List.getElem?_eq_getElem (by omega)⟩
          have hDh : X[h]? = some y := by
            have := hDr (h - a) (by omega)
            rwa [show a + (h - a) = h by omega, hy] at this
          have ey := hE y (List.mem_of_getElem? hDh)
          have ky := evK_at hK hDh
          have fy := pl_seg hK hDh
          have yl := evC_len ky.l32
          skip
          refine sw_draw flo (rPl (some ⟨gg, oo, none⟩) c n X :: F) (by decide +kernel) (Ent.refl _) ?_
          ((iterate 3 refine sd_1 rfl (.inl rfl) ?_); refine sd_2 rfl rfl (by omega) ?_)
          refine sd_ldrow 0 (m * 39) rfl rfl rfl rfl rfl rfl rfl rfl (by rw [mulz_eq, Int.toNat_natCast]) (by omega) fx (by rw [xl]; rfl) ?_
          ((iterate 2 refine sd_1 rfl (.inl rfl) ?_); refine sd_2 rfl rfl (by omega) ?_)
          refine sd_ldrow 0 (h * 39) rfl rfl rfl rfl rfl rfl rfl rfl (by rw [mulz_eq, Int.toNat_natCast]) (by omega) fy (by rw [yl]; rfl) ?_
          refine sd_callE rfl rfl rfl rfl ((compare_S (up ex (ent_keep 1 [] rfl rfl)) (up ey (ent_keep 1 [] rfl rfl)) kx.l32 ky.l32)) (Ent.refl _) ?_
          ((iterate 2 refine sd_1 rfl (.inl rfl) ?_))
          refine sd_know 103 (.bool (!evLt x.2 y.2)) rfl (by rw [evCmp_lt]) ?_
          refine sd_nil ?_
          cases hc : evLt x.2 y.2 with
          | false =>
            (refine sn_then ?_; refine sw_cond_t rfl ?_; refine sw_region ?_; refine so_1 rfl ?_; refine so_2 rfl (by (unfold I64; omega)) ?_; refine so_1 rfl ?_; refine so_nil ?_; refine sn_block ?_)
            rw [show (h : Int) + 1 = ((h + 1 : Nat) : Int) by omega]
            refine sn_round (h + 1, j) ⟨rfl, rfl, rfl, rfl, rfl, trivial⟩ (Ent.refl _) ⟨by dsimp only; omega, by dsimp only; omega, b3, .inr ⟨y, ?_, hc⟩, b5⟩ (by dsimp only; omega)
            dsimp only
            rw [show h + 1 - a - 1 = h - a by omega]; exact hy
          | true =>
            (refine sn_then ?_; refine sw_cond_f rfl ?_; refine sw_region ?_; (iterate 2 refine so_1 rfl ?_); refine so_nil ?_; refine sn_block ?_)
            refine sn_round (i, h) ⟨rfl, rfl, rfl, rfl, rfl, trivial⟩ (Ent.refl _) ⟨b1, by dsimp only; omega, by dsimp only; omega, b4, .inr ⟨y, hy, hc⟩⟩ (by dsimp only; omega)
        · obtain rfl : i = j := by omega
          (refine sw_exit ?_; refine sn_then_exit ?_; refine sn_loop_exit ?_; refine sn_block_exit ?_; refine sn_then ?_; (iterate 2 refine sw_seq ?_); refine sw_region ?_; (iterate 2 refine so_1 rfl ?_); refine so_nil ?_; refine sn_then ?_; refine sw_block ?_)
          refine sw_loop (S := Nat × List (Nat × Ev) × List (Nat × Ev)) (fun s => [(0, .slice (some ⟨gg, oo, none⟩) n c), (14, .int .i64 i), (17, .int .i64 s.1)]) (fun s => rPl (some ⟨gg, oo, none⟩) c n (P ++ s.2.1 ++ (x :: (s.2.2 ++ B))) :: F)
            (fun s => L = s.2.1 ++ s.2.2 ∧ a + s.2.1.length = s.1 ∧ i ≤ s.1) (fun s => s.2.1.length) (m, L, []) ⟨rfl, rfl, rfl, trivial⟩ (by rw [e00]; exact Ent.refl _) ⟨by simp, hL, b3⟩ ?_
          rintro ⟨q, S, T⟩ ⟨hST, hq, hqi⟩
          dsimp only at hST hq hqi ⊢
          have hST2 : L.length = S.length + T.length := by rw [hST, List.length_append]
          ((iterate 2 refine sw_seq ?_); refine sw_region ?_; (iterate 3 refine so_1 rfl ?_); refine so_nil ?_; refine sn_then ?_)
          refine sw_if rfl (fun q2 => ?_) (fun q2 => ?_)
          · obtain ⟨S', y, rfl⟩ := cut_snoc (S := S) (by omega)
            have hq3 : a + S'.length + 1 = q := by rw [← hq]; simp; omega
            have hperm : (P ++ (S' ++ [y]) ++ (x :: (T ++ B))).Perm X := by
              rw [e00, hST]
              have h1 : P ++ (S' ++ [y]) ++ (x :: (T ++ B)) = P ++ ((S' ++ [y] ++ x :: T) ++ B) := by simp
              have h2 : P ++ (S' ++ [y] ++ T) ++ (x :: ([] ++ B)) = P ++ ((S' ++ [y] ++ T ++ [x]) ++ B) := by simp
              rw [h1, h2]
              refine List.Perm.append_left P (List.Perm.append_right B ?_)
              exact List.perm_middle.trans (List.perm_append_singleton x _).symm
            have hKD := evK_perm hK hperm
            have hlenD := hperm.length_eq
            rw [hn] at hlenD
            have e3 : P ++ (S' ++ [y]) ++ (x :: (T ++ B)) = (P ++ S') ++ y :: x :: (T ++ B) := by simp
            have d1 : (P ++ (S' ++ [y]) ++ (x :: (T ++ B)))[q]? = some x := by
              have := at_len1 (P ++ S') y x (T ++ B)
              rw [List.length_append, ha, hq3] at this
              rw [e3]; exact this
            have d2 : (P ++ (S' ++ [y]) ++ (x :: (T ++ B)))[q - 1]? = some y := by
              have := at_len (P ++ S') y (x :: (T ++ B))
              rw [List.length_append, ha, show a + S'.length = q - 1 by omega] at this
              rw [e3]; exact this
            have hsw : ((P ++ (S' ++ [y]) ++ (x :: (T ++ B))).set q y).set (q - 1) x = P ++ S' ++ (x :: (y :: T ++ B)) := by
              have := adj_dn (P ++ S') y x (T ++ B)
              rw [List.length_append, ha, hq3, show a + S'.length = q - 1 by omega, ← e3] at this
              rw [this]; simp
            have kx' := evK_at hKD d1
            have ky := evK_at hKD d2
            have f1 := pl_seg hKD d1
            have f2 := pl_seg hKD d2
            have w1 := pl_set hKD ky (j := q) (by omega)
            have w2 := pl_set (evk_set hKD ky q) kx' (j := q - 1) (by rw [List.length_set]; omega)
            have l1 := pl_len hKD
            have l2 := pl_len (evk_set hKD ky q)
            rw [List.length_set] at l2
            rw [hsw] at w2
            rw [hlenD] at l1 l2
            have hb1 : q * 39 + 39 ≤ n * 39 ∧ (q - 1) * 39 + 39 ≤ n * 39 := by omega
            have x1 := evC_one kx.d1 kx.r1
            have x2 := evC_one ky.d1 ky.r1
            have yl := evC_len ky.l32
            have hN : ((q : Int) - 1).toNat = q - 1 := by omega
            clear hsw d1 d2 e3
            generalize P ++ (S' ++ [y]) ++ (x :: (T ++ B)) = Y at *
            (refine sw_skip ?_; refine sn_then ?_; refine sw_seq ?_; refine sw_block ?_)
            refine sw_freeC 15 [2, 3, 4] (fl := flo) [] [(0, .slice (some ⟨gg, oo, none⟩) n c), (14, .int .i64 i), (17, .int .i64 q)] ⟨rfl, rfl, rfl, trivial⟩ rfl (by kernel_rfl) (by kernel_rfl) (by decide) ?_
            ((iterate 4 refine fc_p (fun _ => rfl) ?_); refine fc_c (fun _ => rfl) (by (unfold I64; omega)) ?_; (iterate 2 refine fc_p (fun _ => rfl) ?_); refine fc_c (fun _ => rfl) (by (unfold I64; omega)) ?_; refine fc_c (fun _ => rfl) (by omega) ?_)
            refine fc_nf (by simp only [List.nil_append, List.cons_append]; exact rfl) ?_
            refine fc_ldrow 0 ((q - 1) * 39) rfl rfl rfl rfl (fun _ => rfl) rfl (by rw [mulz_eq, hN]) (by omega) f2 (by rw [yl]; rfl) ?_
            ((iterate 2 refine fc_p (fun _ => rfl) ?_); refine fc_c (fun _ => rfl) (by omega) ?_)
            refine fc_nf (by simp only [List.nil_append, List.cons_append]; exact rfl) ?_
            refine fc_ldrow 0 (q * 39) rfl rfl rfl rfl (fun _ => rfl) rfl (by rw [mulz_eq, Int.toNat_natCast]) (by omega) f1 (by rw [xl]; rfl) ?_
            (refine fc_c (fun _ => rfl) (by omega) ?_)
            refine fc_nf (by simp only [List.nil_append, List.cons_append]; exact rfl) ?_
            refine .done rfl fun _ => ⟨ent_nil _, ?_⟩
            refine sd_strow 0 (q * 39) rfl rfl rfl rfl rfl rfl rfl rfl rfl w1 (by rw [yl]; rfl) (by rw [mulz_eq, Int.toNat_natCast]) (by rw [yl]; omega) x2 (ent_nil _) ?_
            (refine sd_2 rfl rfl (by omega) ?_)
            refine sd_strow 0 ((q - 1) * 39) rfl rfl rfl rfl rfl rfl rfl rfl rfl w2 (by rw [xl]; rfl) (by rw [mulz_eq, hN]) (by rw [xl]; omega) x1 (ent_nil _) ?_
            refine sd_nil ?_
            (refine sn_block ?_; refine sn_then ?_; refine sw_region ?_; refine so_1 rfl ?_; refine so_2 rfl (by (unfold I64; omega)) ?_; refine so_1 rfl ?_; refine so_nil ?_)
            rw [show (q : Int) - 1 = ((q - 1 : Nat) : Int) by omega]
            exact sn_round (q - 1, S', y :: T) ⟨rfl, rfl, rfl, trivial⟩ (Ent.refl _) ⟨by rw [hST]; simp, by dsimp only; omega, by dsimp only; omega⟩ (by dsimp only; simp)
          · (refine sw_exit ?_; refine sn_then_exit ?_; refine sn_loop_exit ?_; refine sn_block_exit ?_; refine sn_then ?_; refine sw_ret ?_; refine sn_then_ret ?_)
            refine sn_ret rfl (.nil) (Ent.refl _) ?_
            have hSi : S.length = i - a := by omega
            refine ⟨S ++ x :: T, ?_, ?_, ?_⟩
            · rw [hx, hST]; exact List.perm_middle.trans (List.perm_append_singleton x _).symm
            · subst hST
              refine one_right sL (by rw [← hx]; exact hA) ?_ ?_
              · rcases b4 with h | h
                · exact .inl (by omega)
                · right; rw [hSi]; exact h
              · rcases b5 with h | h
                · exact .inl (by omega)
                · right; rw [hSi]; exact h
            · simp
      · -- both cut, and turned
        have l2 : 2 ≤ L.length := by omega
        have r2 : 2 ≤ R.length := by omega
        (refine sw_skip ?_; refine sn_then ?_; refine sw_seq ?_; refine sw_region ?_; (iterate 2 refine so_1 rfl ?_); refine so_2 rfl (by (unfold I64; omega)) ?_; refine so_1 rfl ?_; refine so_2 rfl (by omega) ?_; (iterate 2 refine so_1 rfl ?_); refine so_nil ?_; refine sn_then ?_; refine sw_seq ?_; refine sw_region ?_; (iterate 2 refine so_1 rfl ?_))
        rw [mid_n (by omega)]
        obtain ⟨mid, hmid⟩ : ∃ h, h = (a + z) / 2 := ⟨_, rfl⟩
        rw [← hmid]
        have hmz : a < mid ∧ mid < z := by omega
        (refine so_2 rfl (by (unfold I64; omega)) ?_; refine so_1 rfl ?_; refine so_nil ?_; refine sn_then ?_; refine sw_seq ?_; refine sw_region ?_; (iterate 2 refine so_1 rfl ?_); refine so_nil ?_; refine sn_then ?_; (iterate 2 refine sw_seq ?_); refine sw_region ?_; (iterate 3 refine so_1 rfl ?_); refine so_nil ?_; refine sn_then ?_)
        rw [show (mid : Int) + (m : Int) = ((mid + m : Nat) : Int) by omega]
        obtain ⟨nn, hnn⟩ : ∃ h, h = mid + m := ⟨_, rfl⟩
        rw [← hnn]
        skip
        refine sw_cutT (S := Nat × Nat) (fun s => [(0, .slice (some ⟨gg, oo, none⟩) n c), (1, .int .i64 a), (2, .int .i64 m), (3, .int .i64 z), (4, cmpF), (18, .int .i64 mid), (19, .int .i64 nn), (20, .int .i64 s.1), (21, .int .i64 s.2)]) (fun _ => rPl (some ⟨gg, oo, none⟩) c n (P ++ L ++ R ++ B) :: F)
          (fun s => a ≤ s.1 ∧ s.2 ≤ m ∧ m ≤ nn - s.2 ∧ nn - s.1 ≤ z ∧ s.1 ≤ s.2 ∧ (s.2 = m ∨ nn - s.2 = m) ∧ (s.1 = a ∨ nn - s.1 = z)) ?_ (fun J => ?_)
        · rintro ⟨s0, r0⟩ ⟨c1, c2, c3, c4, c5, c6, c7⟩
          dsimp only at c1 c2 c3 c4 c5 c6 c7 ⊢
          (refine sw_seq ?_; refine sw_region ?_; refine so_1 rfl ?_; refine so_2 rfl (by (unfold I64; omega)) ?_; refine so_1 rfl ?_; refine so_nil ?_; refine sn_then ?_; refine sw_seq ?_; refine sw_block ?_)
          rw [show (nn : Int) - 1 = ((nn - 1 : Nat) : Int) by omega]
          refine sw_loop (S := Nat × Nat) (fun s => [(0, .slice (some ⟨gg, oo, none⟩) n c), (1, .int .i64 a), (2, .int .i64 m), (3, .int .i64 z), (4, cmpF), (18, .int .i64 mid), (19, .int .i64 nn), (20, .int .i64 s.1), (21, .int .i64 s.2), (22, .int .i64 ((nn - 1 : Nat) : Int))]) (fun _ => rPl (some ⟨gg, oo, none⟩) c n (P ++ L ++ R ++ B) :: F)
            (fun s => SeI (P ++ L ++ R ++ B) nn s0 r0 s.1 s.2) (fun s => s.2 - s.1) (s0, r0) ⟨rfl, rfl, rfl, rfl, rfl, rfl, rfl, rfl, rfl, rfl, trivial⟩ (Ent.refl _) ⟨Nat.le_refl _, c5, Nat.le_refl _, .inl rfl, .inl rfl⟩ ?_
          rintro ⟨s, r⟩ hI
          dsimp only at hI ⊢
          have b1 := hI.lo; have b2 := hI.mi; have b3 := hI.hi
          ((iterate 2 refine sw_seq ?_); refine sw_region ?_; (iterate 3 refine so_1 rfl ?_); refine so_nil ?_; refine sn_then ?_)
          refine sw_if rfl (fun q3 => ?_) (fun q3 => ?_)
          · have q3' : s < r := by omega
            generalize hX : P ++ L ++ R ++ B = X at *
            (refine sw_skip ?_; refine sn_then ?_; refine sw_block ?_; refine sw_seq ?_; refine sw_region ?_; (iterate 2 refine so_1 rfl ?_); refine so_2 rfl (by (unfold I64; omega)) ?_; refine so_1 rfl ?_; refine so_2 rfl (by omega) ?_; (iterate 2 refine so_1 rfl ?_); refine so_nil ?_; refine sn_then ?_; refine sw_seq ?_)
            rw [mid_n (by omega)]
            obtain ⟨h, hh⟩ : ∃ h, h = (s + r) / 2 := ⟨_, rfl⟩
            rw [← hh]
            have h3 : s ≤ h ∧ h < r := by omega
            obtain ⟨x, hx⟩ : ∃ x, X[h]? = some x := ⟨_, List.getElem?_eq_getElem (by omega)⟩
            obtain ⟨y, hy⟩ : ∃ y, X[nn - 1 - h]? = some y := ⟨_, List.getElem?_eq_getElem (by omega)⟩
            have ex := hE x (List.mem_of_getElem? hx)
            have ey := hE y (List.mem_of_getElem? hy)
            have kx := evK_at hK hx
            have ky := evK_at hK hy
            have fx := pl_seg hK hx
            have fy := pl_seg hK hy
            have xl := evC_len kx.l32
            have yl := evC_len ky.l32
            have hN : (((nn - 1 : Nat) : Int) - (h : Int)) = ((nn - 1 - h : Nat) : Int) := by omega
            skip
            refine sw_draw flo (rPl (some ⟨gg, oo, none⟩) c n X :: F) (by decide +kernel) (Ent.refl _) ?_
            ((iterate 4 refine sd_1 rfl (.inl rfl) ?_); refine sd_2 rfl rfl (by (unfold I64; omega)) ?_; refine sd_2 rfl rfl (by omega) ?_)
            refine sd_ldrow 0 ((nn - 1 - h) * 39) rfl rfl rfl rfl rfl rfl rfl rfl (by rw [mulz_eq, hN, Int.toNat_natCast]) (by omega) fy (by rw [yl]; rfl) ?_
            ((iterate 2 refine sd_1 rfl (.inl rfl) ?_); refine sd_2 rfl rfl (by omega) ?_)
            refine sd_ldrow 0 (h * 39) rfl rfl rfl rfl rfl rfl rfl rfl (by rw [mulz_eq, Int.toNat_natCast]) (by omega) fx (by rw [xl]; rfl) ?_
            refine sd_callE rfl rfl rfl rfl ((compare_S (up ey (ent_keep 1 [] rfl rfl)) (up ex (ent_keep 1 [] rfl rfl)) ky.l32 kx.l32)) (Ent.refl _) ?_
            ((iterate 2 refine sd_1 rfl (.inl rfl) ?_))
            refine sd_know 171 (.bool (!evLt y.2 x.2)) rfl (by rw [evCmp_lt]) ?_
            refine sd_nil ?_
            cases hc : evLt y.2 x.2 with
            | false =>
              (refine sn_then ?_; refine sw_cond_t rfl ?_; refine sw_region ?_; refine so_1 rfl ?_; refine so_2 rfl (by (unfold I64; omega)) ?_; refine so_1 rfl ?_; refine so_nil ?_; refine sn_block ?_)
              rw [show (h : Int) + 1 = ((h + 1 : Nat) : Int) by omega]
              refine sn_round (h + 1, r) ⟨rfl, rfl, rfl, rfl, rfl, rfl, rfl, rfl, rfl, rfl, trivial⟩ (Ent.refl _) ⟨by dsimp only; omega, by dsimp only; omega, b3, .inr ⟨x, y, ?_, ?_, hc⟩, hI.h2⟩ (by dsimp only; omega)
              · exact hx
              · dsimp only; rw [show nn - (h + 1) = nn - 1 - h by omega]; exact hy
            | true =>
              (refine sn_then ?_; refine sw_cond_f rfl ?_; refine sw_region ?_; (iterate 2 refine so_1 rfl ?_); refine so_nil ?_; refine sn_block ?_)
              exact sn_round (s, h) ⟨rfl, rfl, rfl, rfl, rfl, rfl, rfl, rfl, rfl, rfl, trivial⟩ (Ent.refl _) ⟨b1, by dsimp only; omega, by dsimp only; omega, hI.h1, .inr ⟨x, y, hx, hy, hc⟩⟩ (by dsimp only; omega)
          · obtain rfl : s = r := by omega
            obtain ⟨e, hee⟩ : ∃ e, e = nn - s := ⟨_, rfl⟩
            obtain ⟨L1, L2, rfl, hL1, hL2⟩ := cut_at L (k := s - a) (by omega)
            obtain ⟨R1, R2, rfl, hR1, hR2⟩ := cut_at R (k := e - m) (by omega)
            simp only [List.length_append] at hL2 hR2 hL hR bn hk l0 r0 l2 r2
            obtain ⟨d1, d2⟩ := sym_cut hI rfl rfl ha (by rw [List.length_append]; exact hL) (by rw [List.length_append]; exact hR) (by omega) (by omega) (by omega) c6 c7
            have eD : P ++ (L1 ++ L2) ++ (R1 ++ R2) ++ B = (P ++ L1) ++ L2 ++ R1 ++ (R2 ++ B) := by simp only [List.append_assoc]
            have eD2 : P ++ (L1 ++ R1) ++ (L2 ++ R2) ++ B = (P ++ L1) ++ R1 ++ L2 ++ (R2 ++ B) := by simp only [List.append_assoc]
            have pD : (P ++ (L1 ++ R1) ++ (L2 ++ R2) ++ B).Perm (P ++ (L1 ++ L2) ++ (R1 ++ R2) ++ B) := by rw [eD, eD2]; exact mid_perm _ _ _ _
            (refine sw_exit ?_; refine sn_then_exit ?_; refine sn_loop_exit ?_; refine sn_block_exit ?_; refine sn_then ?_; refine sw_seq ?_; refine sw_region ?_; (iterate 2 refine so_1 rfl ?_); refine so_2 rfl (by (unfold I64; omega)) ?_; refine so_1 rfl ?_; refine so_nil ?_; refine sn_then ?_; (iterate 2 refine sw_seq ?_); refine sw_region ?_; (iterate 4 refine so_1 rfl ?_))
            rw [show (nn : Int) - (s : Int) = (e : Int) by omega]
            refine so_cutT (S := Unit) (fun _ => [(0, .slice (some ⟨gg, oo, none⟩) n c), (1, .int .i64 a), (3, .int .i64 z), (4, cmpF), (18, .int .i64 mid), (20, .int .i64 s), (24, .int .i64 e)]) (fun _ => rPl (some ⟨gg, oo, none⟩) c n (P ++ (L1 ++ R1) ++ (L2 ++ R2) ++ B) :: F) (fun _ => True) (fun _ _ => ?_) (fun J => ?_)
            · have hE2 : ∀ x ∈ P ++ (L1 ++ R1) ++ (L2 ++ R2) ++ B, ∀ w, Sat b F w → ER w x.2 := fun x hx => hE x (pD.mem_iff.1 hx)
              have hK2 := evK_perm hK pD
              have hn2 := pD.length_eq
              rw [hn] at hn2
              have sL1 := (List.pairwise_append.1 sL).1
              have sL2 := (List.pairwise_append.1 sL).2.1
              have sR1 := (List.pairwise_append.1 sR).1
              have sR2 := (List.pairwise_append.1 sR).2.1
              have a1 : Ahead L1 R1 := fun x hx y hy => hA x (by simp [hx]) y (by simp [hy])
              have a2 : Ahead L2 R2 := fun x hx y hy => hA x (by simp [hx]) y (by simp [hy])
              ((iterate 2 refine sw_seq ?_); refine sw_region ?_; (iterate 4 refine so_1 rfl ?_))
              refine so_cutT (S := List (Nat × Ev)) (fun _ => [(0, .slice (some ⟨gg, oo, none⟩) n c), (3, .int .i64 z), (4, cmpF), (18, .int .i64 mid), (24, .int .i64 e)]) (fun M1 => rPl (some ⟨gg, oo, none⟩) c n (P ++ M1 ++ (L2 ++ R2) ++ B) :: F) (fun M1 => M1.Perm (L1 ++ R1) ∧ Srt evLt M1) (fun M1 hM1 => ?_) (fun J => ?_)
              · obtain ⟨p1, s1⟩ := hM1
                have p1l := p1.length_eq
                rw [List.length_append] at p1l
                have pD3 : (P ++ M1 ++ (L2 ++ R2) ++ B).Perm (P ++ (L1 ++ R1) ++ (L2 ++ R2) ++ B) := ((p1.append_left P).append_right _).append_right _
                have hE3 : ∀ x ∈ P ++ M1 ++ (L2 ++ R2) ++ B, ∀ w, Sat b F w → ER w x.2 := fun x hx => hE2 x (pD3.mem_iff.1 hx)
                have hK3 := evK_perm hK2 pD3
                have hn3 := pD3.length_eq
                rw [hn2] at hn3
                have fin : ∀ M2, M2.Perm (L2 ++ R2) → Srt evLt M2 → ∃ M, M.Perm (L1 ++ L2 ++ (R1 ++ R2)) ∧ Srt evLt M ∧ rPl (some ⟨gg, oo, none⟩) c n (P ++ M1 ++ M2 ++ B) :: F = rPl (some ⟨gg, oo, none⟩) c n (P ++ M ++ B) :: F := fun M2 p2 s2 => by
                  obtain ⟨g1, g2⟩ := merge_ok swo_evLt sL sR (oks_all _) hA d1 d2 p1 p2 s1 s2
                  exact ⟨M1 ++ M2, g1, g2, by simp only [List.append_assoc]⟩
                (refine sw_seq ?_; refine sw_region ?_; (iterate 4 refine so_1 rfl ?_))
                by_cases q5 : mid < e
                · refine so_know 209 (.bool true) rfl (congrArg Value.bool (decide_eq_true (by omega))) ?_
                  ((iterate 4 refine so_1 rfl ?_); refine so_nil ?_; refine sn_then ?_)
                  refine sw_if rfl (fun q6 => ?_) (fun q6 => ?_)
                  · have hrec := symMerge_S k (A := some ⟨gg, oo, none⟩) (P := P ++ M1) (L := L2) (R := R2) (B := B) (a := mid) (m := e) (z := z) (by omega) (by simpa only [List.append_assoc] using hE3) (by simpa only [List.append_assoc] using hK3) (by simpa only [List.append_assoc] using hn3) hm (by rw [List.length_append]; omega) (by omega) (by omega) (by omega) (by omega) sL2 sR2 a2
                    rw [show P ++ M1 ++ L2 ++ R2 ++ B = P ++ M1 ++ (L2 ++ R2) ++ B by simp only [List.append_assoc]] at hrec
                    (refine sw_region ?_; (iterate 5 refine so_1 rfl ?_))
                    refine so_call rfl rfl rfl (hrec) ?_
                    rintro _ _ ⟨M2, p2, s2, rfl⟩
                    (refine so_nil ?_)
                    refine sn_end rfl .nil (Ent.refl _) ?_
                    exact fin M2 p2 s2
                  · (refine sw_skip ?_)
                    refine sn_end rfl .nil (Ent.refl _) ?_
                    exact fin (L2 ++ R2) (List.Perm.refl _) (srt_of_nil sL2 sR2 (.inr (by omega)))
                · refine so_know 209 (.bool false) rfl (congrArg Value.bool (decide_eq_false (by omega))) ?_
                  ((iterate 4 refine so_1 rfl ?_); refine so_nil ?_; refine sn_then ?_; refine sw_cond_f rfl ?_; refine sw_skip ?_)
                  refine sn_end rfl .nil (Ent.refl _) ?_
                  exact fin (L2 ++ R2) (List.Perm.refl _) (srt_of_nil sL2 sR2 (.inl (by omega)))
              · by_cases q5 : a < s
                · refine so_know 195 (.bool true) rfl (congrArg Value.bool (decide_eq_true (by omega))) ?_
                  ((iterate 4 refine so_1 rfl ?_))
                  refine so_nil (sn_then (sw_if rfl (fun q6 => ?_) (fun q6 => ?_)))
                  · have hrec := symMerge_S k (A := some ⟨gg, oo, none⟩) (P := P) (L := L1) (R := R1) (B := L2 ++ R2 ++ B) (a := a) (m := s) (z := mid) (by omega) (by simpa only [List.append_assoc] using hE2) (by simpa only [List.append_assoc] using hK2) (by simpa only [List.append_assoc] using hn2) hm ha (by omega) (by omega) (by omega) (by omega) sL1 sR1 a1
                    rw [show P ++ L1 ++ R1 ++ (L2 ++ R2 ++ B) = P ++ (L1 ++ R1) ++ (L2 ++ R2) ++ B by simp only [List.append_assoc]] at hrec
                    refine sw_region ?_
                    ((iterate 5 refine so_1 rfl ?_))
                    refine so_call rfl rfl rfl (hrec) ?_
                    rintro _ _ ⟨M1, p1, s1, rfl⟩
                    refine so_nil (J M1 _ _ ⟨p1, s1⟩ ⟨rfl, rfl, rfl, rfl, rfl, trivial⟩ ?_)
                    rw [show P ++ M1 ++ (L2 ++ R2 ++ B) = P ++ M1 ++ (L2 ++ R2) ++ B by simp only [List.append_assoc]]
                    exact Ent.refl _
                  · exact sw_skip (J (L1 ++ R1) _ _ ⟨List.Perm.refl _, srt_of_nil sL1 sR1 (.inr (by omega))⟩ ⟨rfl, rfl, rfl, rfl, rfl, trivial⟩ (Ent.refl _))
                · refine so_know 195 (.bool false) rfl (congrArg Value.bool (decide_eq_false (by omega))) ?_
                  ((iterate 4 refine so_1 rfl ?_))
                  refine so_nil (sn_then (sw_cond_f rfl (sw_skip (J (L1 ++ R1) _ _ ⟨List.Perm.refl _, srt_of_nil sL1 sR1 (.inl (by omega))⟩ ⟨rfl, rfl, rfl, rfl, rfl, trivial⟩ (Ent.refl _)))))
            · by_cases q5 : s < m
              · refine so_know 181 (.bool true) rfl (congrArg Value.bool (decide_eq_true (by omega))) ?_
                ((iterate 4 refine so_1 rfl ?_))
                refine so_nil (sn_then (sw_if rfl (fun q6 => ?_) (fun q6 => ?_)))
                · have hrot := rotate_S (b := b) (F := F) (A := some ⟨gg, oo, none⟩) (c := c) (n := n) (fv := cmpF) (P := P ++ L1) (L := L2) (R := R1) (Q := R2 ++ B) (a := s) (m := m) (z := e) (by rw [← eD2]; exact evK_perm hK pD) (by rw [← eD2, pD.length_eq]; exact hn) hm (by omega) (by omega) (by rw [List.length_append]; omega) (by omega) (by omega)
                  rw [← eD, ← eD2] at hrot
                  refine sw_region ?_
                  ((iterate 5 refine so_1 rfl ?_))
                  refine so_call rfl rfl rfl (hrot) ?_
                  rintro _ _ rfl
                  exact so_nil (J () _ _ trivial ⟨rfl, rfl, rfl, rfl, rfl, rfl, rfl, trivial⟩ (Ent.refl _))
                · have hR0 : R1 = [] := List.eq_nil_of_length_eq_zero (by omega)
                  refine sw_skip (J () _ _ trivial ⟨rfl, rfl, rfl, rfl, rfl, rfl, rfl, trivial⟩ ?_)
                  rw [show P ++ (L1 ++ R1) ++ (L2 ++ R2) ++ B = P ++ (L1 ++ L2) ++ (R1 ++ R2) ++ B by rw [hR0]; simp]
                  exact Ent.refl _
              · have hL0 : L2 = [] := List.eq_nil_of_length_eq_zero (by omega)
                refine so_know 181 (.bool false) rfl (congrArg Value.bool (decide_eq_false (by omega))) ?_
                ((iterate 4 refine so_1 rfl ?_))
                refine so_nil (sn_then (sw_cond_f rfl (sw_skip (J () _ _ trivial ⟨rfl, rfl, rfl, rfl, rfl, rfl, rfl, trivial⟩ ?_))))
                rw [show P ++ (L1 ++ R1) ++ (L2 ++ R2) ++ B = P ++ (L1 ++ L2) ++ (R1 ++ R2) ++ B by rw [hL0]; simp]
                exact Ent.refl _
        · refine sw_if rfl (fun q3 => ?_) (fun q3 => ?_)
          · refine sw_seq (sw_region ?_)
            ((iterate 2 refine so_1 rfl ?_); refine so_2 rfl (by (unfold I64; omega)) ?_; refine so_1 rfl ?_)
            rw [show (nn : Int) - (z : Int) = ((nn - z : Nat) : Int) by omega]
            refine so_nil (sn_then (sw_region ?_))
            ((iterate 2 refine so_1 rfl ?_))
            exact so_nil (J (nn - z, mid) _ _ ⟨by dsimp only; omega, by dsimp only; omega, by dsimp only; omega, by dsimp only; omega, by dsimp only; omega, .inr (by dsimp only; omega), .inr (by dsimp only; omega)⟩ ⟨rfl, rfl, rfl, rfl, rfl, rfl, rfl, rfl, rfl, trivial⟩ (Ent.refl _))
          · refine sw_seq (sw_region ?_)
            ((iterate 2 refine so_1 rfl ?_))
            refine so_nil (sn_then (sw_region ?_))
            ((iterate 2 refine so_1 rfl ?_))
            exact so_nil (J (a, m) _ _ ⟨Nat.le_refl _, Nat.le_refl _, by dsimp only; omega, by dsimp only; omega, by dsimp only; omega, .inl rfl, .inl rfl⟩ ⟨rfl, rfl, rfl, rfl, rfl, rfl, rfl, rfl, rfl, trivial⟩ (Ent.refl _))
end
end Go.Proofs.YtaglpaoipdmboaaGreat
/- Stable sorting, part nine: the whole. Conditions: at most a hundred thousand things. -/
namespace Go.Proofs.YtaglpaoipdmboaaGreat
open Go Go.Eng Go.RowKit

theorem cut3 {α : Type} (X : List α) {a k : Nat} (h : a + k ≤ X.length) : ∃ P L B, X = P ++ L ++ B ∧ P.length = a ∧ L.length = k ∧ B.length = X.length - a - k := by
  obtain ⟨P, T, rfl, h1, h2⟩ := cut_at X (k := a) (by omega)
  obtain ⟨L, B, rfl, h3, h4⟩ := cut_at T (k := k) (by rw [h2]; omega)
  exact ⟨P, L, B, by simp only [List.append_assoc], h1, h3, by rw [h4, h2]⟩
section
variable {b : World} {F : List SP} {A : Option Addr} {c n : Nat}
set_option maxRecDepth 20000 in
set_option maxHeartbeats 4000000 in
theorem stable_S {D : List (Nat × Ev)} (hD : ∀ (j : Nat) (x : Nat × Ev), D[j]? = some x → x.1 = j) (hE : ∀ m ∈ D, ∀ w, Sat b F w → ER w m.2) (hK : ∀ m ∈ D, EvK m.2) (hn : D.length = n) (hm : n ≤ 100000) :
    SC Tryz.prog n_slices_stableCmpFunc_event_place [.slice A n c, .int .i64 n, cmpF] b (rPl A c n D :: F) (fun _ F' => ∃ M, M.Perm D ∧ Srt evLt M ∧ F' = rPl A c n M :: F) := by
  have mE : ∀ {X : List (Nat × Ev)}, X.Perm D → ∀ m ∈ X, ∀ w, Sat b F w → ER w m.2 := fun h m hm => hE m (h.mem_iff.1 hm)
  refine enterS F_slices_stableCmpFunc_event_place rfl rfl rfl ?_
  (refine sw_seq ?_; refine sw_region ?_; refine so_1 rfl ?_; refine so_nil ?_; refine sn_then ?_; refine sw_seq ?_; refine sw_region ?_; (iterate 3 refine so_1 rfl ?_); refine so_nil ?_; refine sn_then ?_; refine sw_seq ?_; refine sw_block ?_)
  refine sw_loop (S := Nat × List (Nat × Ev)) (fun s => [(0, .slice A n c), (1, .int .i64 n), (2, cmpF), (6, .int .i64 20), (7, .int .i64 s.1), (8, .int .i64 ((s.1 + 20 : Nat) : Int))]) (fun s => rPl A c n s.2 :: F)
    (fun s => BI evLt D s.1 20 1 s.2 ∧ 20 ∣ s.1 ∧ s.1 ≤ n) (fun s => n - s.1) (0, D) ⟨rfl, rfl, rfl, rfl, rfl, rfl, trivial⟩ (Ent.refl _) ⟨bi_start D hD 20, ⟨0, rfl⟩, Nat.zero_le _⟩ ?_
  rintro ⟨a, X⟩ ⟨hB, ha, han⟩
  dsimp only at hB ha han ⊢
  have hX := hB.len
  rw [hn] at hX
  ((iterate 2 refine sw_seq ?_); refine sw_region ?_; (iterate 3 refine so_1 rfl ?_); refine so_nil ?_; refine sn_then ?_)
  refine sw_if rfl (fun h1 => ?_) (fun h1 => ?_)
  · obtain ⟨P, L, B, rfl, p1, p2, p3⟩ := cut3 X (a := a) (k := 20) (by omega)
    (refine sw_skip ?_; refine sn_then ?_; refine sw_block ?_; refine sw_seq ?_; refine sw_region ?_; (iterate 4 refine so_1 rfl ?_))
    refine so_call rfl rfl rfl (insertion_S (F := F) (A := A) (c := c) (n := n) (P := P) (L := L) (B := B) (a := a) (z := a + 20) (mE hB.perm) (evK_perm hK hB.perm) hX hm p1 (by omega) (hB.rise rfl p1)) ?_
    rintro _ _ ⟨M, g1, g2, rfl⟩
    have hB2 := hB.step (q := 20) (b := a + 20) (by omega) rfl (by omega) rfl p1 ha (by omega) (by omega) (.inl rfl) g1 g2
    (refine so_nil ?_; refine sn_then ?_; refine sw_seq ?_; refine sw_region ?_; (iterate 2 refine so_1 rfl ?_); refine so_nil ?_; refine sn_then ?_; refine sw_region ?_; (iterate 2 refine so_1 rfl ?_); refine so_2 rfl (by (unfold I64; omega)) ?_; refine so_1 rfl ?_; refine so_nil ?_; refine sn_block ?_)
    rw [show ((a + 20 : Nat) : Int) + 20 = ((a + 20 + 20 : Nat) : Int) by omega]
    refine sn_round (a + 20, P ++ M ++ B) ⟨rfl, rfl, rfl, rfl, rfl, rfl, trivial⟩ (Ent.refl _) ⟨hB2, ?_, by dsimp only; omega⟩ (by dsimp only; omega)
    dsimp only; omega
  · obtain ⟨P, L, B, rfl, p1, p2, p3⟩ := cut3 X (a := a) (k := X.length - a) (by omega)
    have hB0 : B = [] := List.eq_nil_of_length_eq_zero (by omega)
    subst hB0
    rw [hX] at p2
    (refine sw_exit ?_; refine sn_then_exit ?_; refine sn_loop_exit ?_; refine sn_block_exit ?_; refine sn_then ?_; refine sw_seq ?_; refine sw_region ?_; (iterate 4 refine so_1 rfl ?_))
    refine so_call rfl rfl rfl (insertion_S (F := F) (A := A) (c := c) (n := n) (P := P) (L := L) (B := []) (a := a) (z := n) (mE hB.perm) (evK_perm hK hB.perm) hX hm p1 (by omega) (hB.rise rfl p1)) ?_
    rintro _ _ ⟨M, g1, g2, rfl⟩
    have hB2 := hB.step (q := 20) (b := n) (by omega) rfl (by omega) rfl p1 ha (by omega) (by omega) (.inr rfl) g1 g2
    have hX2 := hB2.len
    rw [hn] at hX2
    have hB3 := hB2.next (by omega) 40
    clear hB hB2 hX g1 g2
    generalize P ++ M ++ [] = X at *
    (refine so_nil ?_; refine sn_then ?_; refine sw_block ?_)
    refine sw_loop (S := Nat × List (Nat × Ev)) (fun s => [(0, .slice A n c), (1, .int .i64 n), (2, cmpF), (6, .int .i64 s.1)]) (fun s => rPl A c n s.2 :: F)
      (fun s => BI evLt D 0 (2 * s.1) s.1 s.2 ∧ 0 < s.1 ∧ s.1 ≤ 20 + 2 * n) (fun s => n - s.1) (20, X) ⟨rfl, rfl, rfl, rfl, trivial⟩ (Ent.refl _) ⟨hB3, by dsimp only; omega, by dsimp only; omega⟩ ?_
    clear hB3 hX2
    rintro ⟨z, X⟩ ⟨hB, hz, hzn⟩
    dsimp only at hB hz hzn ⊢
    have hX := hB.len
    rw [hn] at hX
    ((iterate 2 refine sw_seq ?_); refine sw_region ?_; (iterate 3 refine so_1 rfl ?_); refine so_nil ?_; refine sn_then ?_)
    refine sw_if rfl (fun h2 => ?_) (fun h2 => ?_)
    · (refine sw_skip ?_; refine sn_then ?_; refine sw_block ?_; refine sw_seq ?_; refine sw_region ?_; refine so_1 rfl ?_; refine so_2 rfl (by (unfold I64; omega)) ?_; (iterate 2 refine so_1 rfl ?_); refine so_nil ?_; refine sn_then ?_; refine sw_seq ?_; refine sw_block ?_)
      rw [show (2 : Int) * (z : Int) = ((0 + 2 * z : Nat) : Int) by omega]
      refine sw_loop (S := Nat × List (Nat × Ev)) (fun s => [(0, .slice A n c), (1, .int .i64 n), (2, cmpF), (6, .int .i64 z), (7, .int .i64 s.1), (8, .int .i64 ((s.1 + 2 * z : Nat) : Int))]) (fun s => rPl A c n s.2 :: F)
        (fun s => BI evLt D s.1 (2 * z) z s.2 ∧ 2 * z ∣ s.1 ∧ s.1 ≤ n) (fun s => n - s.1) (0, X) ⟨rfl, rfl, rfl, rfl, rfl, rfl, trivial⟩ (Ent.refl _) ⟨hB, ⟨0, rfl⟩, Nat.zero_le _⟩ ?_
      clear hB hX
      rintro ⟨a, X⟩ ⟨hB, ha, han⟩
      dsimp only at hB ha han ⊢
      have hX := hB.len
      rw [hn] at hX
      ((iterate 2 refine sw_seq ?_); refine sw_region ?_; (iterate 3 refine so_1 rfl ?_); refine so_nil ?_; refine sn_then ?_)
      refine sw_if rfl (fun h3 => ?_) (fun h3 => ?_)
      · obtain ⟨P, L, T, rfl, p1, p2, p3⟩ := cut3 X (a := a) (k := z) (by omega)
        obtain ⟨R, B, rfl, p4, p5⟩ := cut_at T (k := z) (by omega)
        have e : P ++ L ++ (R ++ B) = P ++ (L ++ R) ++ B := by simp only [List.append_assoc]
        rw [e] at hB hX
        obtain ⟨s1, s2, s3⟩ := hB.two hz rfl p1 ha p2 (by omega)
        have hm := symMerge_S (b := b) (F := F) (c := c) (n := n) (L.length + R.length) (A := A) (P := P) (L := L) (R := R) (B := B) (a := a) (m := a + z) (z := a + 2 * z) (Nat.le_refl _) (by simpa only [List.append_assoc] using mE hB.perm) (by simpa only [List.append_assoc] using evK_perm hK hB.perm) (by simpa only [List.append_assoc] using hX) hm p1 (by omega) (by omega) (by omega) (by omega) s1 s2 s3
        rw [show P ++ L ++ R ++ B = P ++ L ++ (R ++ B) by simp only [List.append_assoc]] at hm
        (refine sw_skip ?_; refine sn_then ?_; refine sw_block ?_; refine sw_seq ?_; refine sw_region ?_; (iterate 4 refine so_1 rfl ?_); refine so_2 rfl (by (unfold I64; omega)) ?_; (iterate 2 refine so_1 rfl ?_))
        rw [show (a : Int) + (z : Int) = ((a + z : Nat) : Int) by omega]
        refine so_call rfl rfl rfl (hm) ?_
        rintro _ _ ⟨M, g1, g2, rfl⟩
        have hB2 := hB.step (q := 2) (b := a + 2 * z) hz rfl (by omega) rfl p1 ha (by rw [List.length_append]; omega) (by omega) (.inl rfl) g1 g2
        (refine so_nil ?_; refine sn_then ?_; refine sw_seq ?_; refine sw_region ?_; (iterate 2 refine so_1 rfl ?_); refine so_nil ?_; refine sn_then ?_; refine sw_region ?_; (iterate 2 refine so_1 rfl ?_); (iterate 2 refine so_2 rfl (by (unfold I64; omega)) ?_); refine so_1 rfl ?_; refine so_nil ?_; refine sn_block ?_)
        rw [show ((a + 2 * z : Nat) : Int) + 2 * (z : Int) = ((a + 2 * z + 2 * z : Nat) : Int) by omega]
        refine sn_round (a + 2 * z, P ++ M ++ B) ⟨rfl, rfl, rfl, rfl, rfl, rfl, trivial⟩ (Ent.refl _) ⟨hB2, ?_, by dsimp only; omega⟩ (by dsimp only; omega)
        exact Nat.dvd_add ha (Nat.dvd_refl _)
      · (refine sw_exit ?_; refine sn_then_exit ?_; refine sn_loop_exit ?_; refine sn_block_exit ?_; refine sn_then ?_; (iterate 2 refine sw_seq ?_); refine sw_region ?_; (iterate 2 refine so_1 rfl ?_); refine so_2 rfl (by (unfold I64; omega)) ?_; refine so_1 rfl ?_; refine so_nil ?_; refine sn_then ?_; refine sw_seq ?_; refine sw_region ?_; (iterate 3 refine so_1 rfl ?_); refine so_nil ?_; refine sn_then ?_)
        rw [show (a : Int) + (z : Int) = ((a + z : Nat) : Int) by omega]
        refine sw_if rfl (fun h4 => ?_) (fun h4 => ?_)
        · obtain ⟨P, L, R, rfl, p1, p2, p3⟩ := cut3 X (a := a) (k := z) (by omega)
          have e : P ++ L ++ R = P ++ (L ++ R) ++ [] := by simp only [List.append_assoc, List.append_nil]
          rw [hX] at p3
          rw [e] at hB hX
          obtain ⟨s1, s2, s3⟩ := hB.two hz rfl p1 ha p2 (by omega)
          have hm := symMerge_S (b := b) (F := F) (c := c) (n := n) (L.length + R.length) (A := A) (P := P) (L := L) (R := R) (B := []) (a := a) (m := a + z) (z := n) (Nat.le_refl _) (by simpa only [List.append_assoc] using mE hB.perm) (by simpa only [List.append_assoc] using evK_perm hK hB.perm) (by simpa only [List.append_assoc] using hX) hm p1 (by omega) (by omega) (by omega) (by omega) s1 s2 s3
          rw [show P ++ L ++ R ++ [] = P ++ L ++ R by simp only [List.append_nil]] at hm
          (refine sw_region ?_; (iterate 5 refine so_1 rfl ?_))
          refine so_call rfl rfl rfl (hm) ?_
          rintro _ _ ⟨M, g1, g2, rfl⟩
          have hB2 := hB.step (q := 2) (b := n) hz rfl (by omega) rfl p1 ha (by rw [List.length_append]; omega) (by omega) (.inr rfl) g1 g2
          have hX2 := hB2.len
          rw [hn] at hX2
          (refine so_nil ?_; refine sn_then ?_; refine sw_region ?_; refine so_1 rfl ?_; refine so_2 rfl (by (unfold I64; omega)) ?_; refine so_1 rfl ?_; refine so_nil ?_; refine sn_block ?_)
          rw [show (z : Int) * 2 = ((2 * z : Nat) : Int) by omega]
          exact sn_round (2 * z, P ++ M ++ []) ⟨rfl, rfl, rfl, rfl, trivial⟩ (Ent.refl _) ⟨hB2.next (by omega) _, by dsimp only; omega, by dsimp only; omega⟩ (by dsimp only; omega)
        · have hB2 := hB.rest (q := 2) hz rfl (by omega) ha (by omega)
          (refine sw_skip ?_; refine sn_then ?_; refine sw_region ?_; refine so_1 rfl ?_; refine so_2 rfl (by (unfold I64; omega)) ?_; refine so_1 rfl ?_; refine so_nil ?_; refine sn_block ?_)
          rw [show (z : Int) * 2 = ((2 * z : Nat) : Int) by omega]
          exact sn_round (2 * z, X) ⟨rfl, rfl, rfl, rfl, trivial⟩ (Ent.refl _) ⟨hB2.next (by omega) _, by dsimp only; omega, by dsimp only; omega⟩ (by dsimp only; omega)
    · (refine sw_exit ?_; refine sn_then_exit ?_; refine sn_loop_exit ?_; refine sn_block_exit ?_)
      refine sn_end rfl .nil (Ent.refl _) ?_
      exact ⟨X, hB.perm, hB.done (by omega), rfl⟩
theorem sortStable_S {D : List (Nat × Ev)} (hD : ∀ (j : Nat) (x : Nat × Ev), D[j]? = some x → x.1 = j) (hE : ∀ m ∈ D, ∀ w, Sat b F w → ER w m.2) (hK : ∀ m ∈ D, EvK m.2) (hn : D.length = n) (hm : n ≤ 100000) :
    SC Tryz.prog n_slices_SortStableFunc_sl_event_place_event_place [.slice A n c, cmpF] b (rPl A c n D :: F) (fun _ F' => ∃ M, M.Perm D ∧ Srt evLt M ∧ F' = rPl A c n M :: F) := by
  refine enterS F_slices_SortStableFunc_sl_event_place_event_place rfl rfl rfl ?_
  (refine sw_region ?_; (iterate 4 refine so_1 rfl ?_))
  refine so_call rfl rfl rfl (stable_S (A := A) (c := c) hD hE hK hn hm) ?_
  rintro _ _ ⟨M, g1, g2, rfl⟩
  (refine so_nil ?_)
  refine sn_end rfl .nil (Ent.refl _) ?_
  exact ⟨M, g1, g2, rfl⟩
end
end Go.Proofs.YtaglpaoipdmboaaGreat
/- Stable sorting, part ten: the order of events, as a list tells it. Conditions: none. -/
namespace Go.Proofs.YtaglpaoipdmboaaGreat
open Go Go.Eng Go.RowKit

def tag {α : Type} (i : Nat) : List α → List (Nat × α)
  | [] => []
  | x :: l => (i, x) :: tag (i + 1) l
theorem tag_get {α : Type} (l : List α) (i j : Nat) : (tag i l)[j]? = l[j]?.map fun x => (i + j, x) := by
  induction l generalizing i j with
  | nil => simp [tag]
  | cons x l ih =>
    cases j with
    | zero => simp [tag]
    | succ j =>
      simp only [tag, List.getElem?_cons_succ, ih]
      congr 1; funext x; rw [Nat.add_right_comm, Nat.add_assoc]
theorem tag_snd {α : Type} (l : List α) (i : Nat) : (tag i l).map Prod.snd = l := by
  induction l generalizing i with
  | nil => rfl
  | cons x l ih => simp only [tag, List.map_cons, ih]
theorem tag_map {α β : Type} (f : α → β) (l : List α) (i : Nat) : tag i (l.map f) = (tag i l).map fun x => (x.1, f x.2) := by
  induction l generalizing i with
  | nil => rfl
  | cons x l ih => simp only [tag, List.map_cons, ih]
theorem tag_len {α : Type} (l : List α) (i : Nat) : (tag i l).length = l.length := by
  rw [← List.length_map (f := Prod.snd), tag_snd]
theorem tag_fst {α : Type} (l : List α) : ∀ (j : Nat) (x : Nat × α), (tag 0 l)[j]? = some x → x.1 = j := fun j x h => by
  rw [tag_get] at h
  cases hj : l[j]? with
  | none => rw [hj] at h; cases h
  | some y => rw [hj] at h; cases h; simp
theorem tag_mem {α : Type} {l : List α} {i : Nat} {x : Nat × α} (h : x ∈ tag i l) : x.2 ∈ l := by
  have := List.mem_map_of_mem (f := Prod.snd) h
  rwa [tag_snd] at this
/-- Told in order: just one list. -/
def IsSort (l S : List Ev) : Prop := ∃ M : List (Nat × Ev), M.Perm (tag 0 l) ∧ Srt evLt M ∧ M.map Prod.snd = S
theorem IsSort.perm {l S : List Ev} (h : IsSort l S) : S.Perm l := by
  obtain ⟨M, p, s, rfl⟩ := h
  have := p.map Prod.snd
  rwa [tag_snd] at this
theorem IsSort.asc {l S : List Ev} (h : IsSort l S) : S.Pairwise fun x y => evLt y x = false := by
  obtain ⟨M, p, s, rfl⟩ := h
  rw [List.pairwise_map]
  refine s.imp fun {x y} h => ?_
  rcases h with h | h
  · exact swo_evLt.asy _ _ trivial trivial h
  · exact h.1
theorem IsSort.nil : IsSort [] [] := ⟨[], .refl _, List.Pairwise.nil, rfl⟩
theorem isSort_nE {l S : List Ev} {M : List (Nat × Ev)} (p : M.Perm (tag 0 l)) (s : Srt evLt M) (e : (M.map Prod.snd).map nE = S) : IsSort (l.map nE) S := by
  refine ⟨M.map fun x => (x.1, nE x.2), ?_, ?_, by rw [← e, List.map_map, List.map_map]; rfl⟩
  · rw [tag_map]; exact p.map _
  · rw [Srt, List.pairwise_map]
    exact s.imp fun h => h
end Go.Proofs.YtaglpaoipdmboaaGreat
/- Stable sorting, part eleven: the program's order of events; events copied. Conditions: not too many. -/
namespace Go.Proofs.YtaglpaoipdmboaaGreat
open Go Go.Eng Go.RowKit

theorem evF_perm {l m : List Ev} (h : l.Perm m) : (evF l).Perm (evF m) := by
  induction h with
  | nil => exact .refl _
  | cons x _ ih => exact ih.append_left _
  | swap x y l =>
    simp only [evF, ← List.append_assoc]
    exact List.perm_append_comm.append_right _
  | trans _ _ h1 h2 => exact h1.trans h2
theorem flC_snd (M : List (Nat × Ev)) : flC pvC M = evsC (M.map Prod.snd) := by
  induction M with
  | nil => rfl
  | cons x M ih => simp only [flC, List.map_cons, ih]
theorem evsC_snoc (D : List Ev) (y : Ev) : evsC (D ++ [y]) = evsC D ++ evC y := by
  show flC evC (D ++ [y]) = flC evC D ++ evC y
  rw [flC_app]; simp [flC]
/-- As many as may be copied. -/
structure EvM (e : Ev) : Prop where
  l32 : e.id.length = 32
  dn : e.deps.length ≤ 1000000
  rn : e.refs.length ≤ 1000000
theorem EvM.own {e : Ev} (h : EvM e) (dv rv : Value) : EvM (e.own dv rv) := ⟨h.l32, h.dn, h.rn⟩
theorem EvM.nE {e f : Ev} (h : EvM e) (hf : nE f = nE e) : EvM f := by
  obtain ⟨dv, rv, rfl⟩ := nE_eq hf.symm
  exact ⟨h.l32, h.dn, h.rn⟩
theorem evM_map {l D : List Ev} (h : ∀ e ∈ l, EvM e) (hD : D.map Go.Proofs.YtaglpaoipdmboaaGreat.nE = l.map Go.Proofs.YtaglpaoipdmboaaGreat.nE) : ∀ e ∈ D, EvM e := fun e he => by
  have h1 : Go.Proofs.YtaglpaoipdmboaaGreat.nE e ∈ l.map Go.Proofs.YtaglpaoipdmboaaGreat.nE := by rw [← hD]; exact List.mem_map.2 ⟨e, he, rfl⟩
  obtain ⟨f, hf, hfe⟩ := List.mem_map.1 h1
  exact (h f hf).nE hfe.symm
theorem er_form {w : World} {e : Ev} (h : ER w e) : e.dv.oneCell' = true ∧ e.rv.oneCell' = true := by
  obtain ⟨A, c, hd, _⟩ := h.dv.form
  obtain ⟨A2, c2, hr, _⟩ := sl_form h.rv
  exact ⟨by rw [hd]; rfl, by rw [hr]; rfl⟩
section
variable {b : World} {F : List SP} {l : List Ev}
set_option maxRecDepth 20000 in
set_option maxHeartbeats 4000000 in
theorem Sort_S {v : Value} (hl : ∀ w, Sat b F w → EL w v l) (hk : ∀ e ∈ l, EvM e) (hn : l.length ≤ 100000) :
    SC Tryz.prog n_event_Sort [v] b F (fun u F' => ∃ D, IsSort (l.map nE) (D.map nE) ∧ F' = rEs u D :: all (evF D) :: F) := by
  have h32 : ∀ e ∈ l, e.id.length = 32 := fun e he => (hk e he).l32
  refine enterS F_event_Sort rfl rfl rfl ?_
  refine sw_fact (fun w H => sl_form (hl w H).sl) ?_
  rintro ⟨A0, c0, rfl, _, _, _, k4, _⟩
  (refine sw_seq ?_; refine sw_region ?_; refine so_1 rfl ?_; refine so_nil ?_; refine sn_then ?_; refine sw_seq ?_; refine sw_region ?_; refine so_1 rfl ?_; refine so_nil ?_; refine sn_then ?_; (iterate 2 refine sw_seq ?_); refine sw_region ?_; (iterate 3 refine so_1 rfl ?_); refine so_nil ?_; refine sn_then ?_; refine sw_block ?_)
  refine sw_loop (S := Nat × List Ev × Nat × Option Addr × Nat) (fun s => [(2, .slice none 0 0), (3, .slice s.2.2.2.1 s.2.2.1 s.2.2.2.2), (8, .slice A0 l.length c0), (9, .int .i64 (l.length : Int)), (10, .int .i64 (s.1 : Int))])
    (fun s => row t_event_place 39 (.slice s.2.2.2.1 s.2.2.1 s.2.2.2.2) s.2.2.1 (evsC s.2.1) :: all (evF s.2.1) :: F) (fun s => s.1 ≤ l.length ∧ s.2.1.map nE = (l.take s.1).map nE ∧ s.2.1.length = s.2.2.1) (fun s => l.length - s.1) (0, [], 0, none, 0) ⟨rfl, rfl, rfl, rfl, rfl, trivial⟩ ?_ ⟨Nat.zero_le _, rfl, rfl⟩ ?_
  · exact (ent_close (G := [])).trans (ent_row_nil t_event_place 39 rfl)
  rintro ⟨i, D, o, A, c⟩ ⟨hi1, hD, ho⟩
  dsimp only at hi1 hD ho ⊢
  have hDl : D.length = i := by have := congrArg List.length hD; rw [List.length_map, List.length_map, List.length_take] at this; omega
  (refine sw_seq ?_; refine sw_region ?_; refine so_1 rfl ?_; refine so_nil ?_; refine sn_then ?_; refine sw_seq ?_)
  refine sw_if rfl (fun h1 => ?_) (fun h1 => ?_)
  · have h1' : i < l.length := by omega
    obtain ⟨gg, oo, rfl⟩ := k4 (by omega)
    have hmem := List.getElem_mem h1'
    have hsn : (l.take (i + 1)).map nE = D.map nE ++ [nE l[i]] := by rw [List.take_succ_eq_append_getElem h1', List.map_append, ← hD]; rfl
    have hc : ∀ w, Sat b F w → ∀ j, j < 39 → w.cell? ⟨gg, oo + i * 39 + j, none⟩ = (evC l[i])[j]? := fun w H j hj => ev_cell (hl w H) h32 h1' hj
    have her : ∀ w, Sat b F w → ER w l[i] := fun w H => (hl w H).er _ hmem
    obtain ⟨hx32, hxd, hxr⟩ := hk _ hmem
    generalize l[i] = x at *
    refine sw_fact (fun w H => er_form (her w (H.ent (ent_keep 2 [] rfl rfl)))) ?_
    rintro ⟨o1, o2⟩
    have xl := evC_len hx32
    have x1 := evC_one o1 o2
    (refine sw_skip ?_; refine sn_then ?_; refine sw_seq ?_; refine sw_block ?_; refine sw_seq ?_; refine sw_region ?_; refine so_2 rfl (by omega) ?_)
    refine so_rd rfl (fun w H => ex_loadN (cs := evC x) rfl rfl rfl xl (fun j hj => by rw [mulz_eq, Int.toNat_natCast]; exact hc w (H.ent (ent_keep 2 [] rfl rfl)) j (by rw [xl] at hj; exact hj))) rfl ?_
    refine so_new rfl rfl rfl rfl rfl fun g5 => ?_
    refine so_stW 0 rfl rfl rfl rfl rfl rfl rfl xl x1 (by rw [xl]; rfl) ?_
    refine so_nil (sn_then (sw_seq ?_))
    refine sw_draw2 flo 7 (pt g5 t_api_Event (evC x) :: F) [] rfl (by decide +kernel) (ent_keep 3 [0] rfl rfl) ?_
    (refine sd_1 rfl (.inl rfl) ?_; refine sd_l 0 rfl rfl rfl rfl ?_)
    refine sd_call rfl rfl rfl rfl (Clone_ints (up (fun w H => (her w H).dv) (ent_keep 3 [] rfl rfl)) hxd) ?_
    rintro dv _ rfl
    refine ⟨ent_keep 4 [1] rfl rfl, ?_⟩
    (refine sd_1 rfl (.inl rfl) ?_)
    refine sd_ld 0 rfl rfl rfl rfl rfl rfl (evC_rv hx32) rfl rfl ?_
    refine sd_call rfl rfl rfl rfl (Clone_ids (up (fun w H => (her w H).rv) (ent_keep 4 [] rfl rfl)) hxr) ?_
    rintro rv _ rfl
    refine ⟨ent_keep 5 [2] rfl rfl, ?_⟩
    (refine sd_1 rfl (.inl rfl) ?_)
    refine sd_nil (sn_draw2 rfl (ent_nil _) ?_)
    refine sd_fact (fun w H => (H.oat (k := 1) rfl).form) ?_
    rintro ⟨A1, c1, rfl, _, _, _⟩
    refine sd_fact (fun w H => (H.oat (k := 0) rfl).form) ?_
    rintro ⟨A2, c2, rfl, _, _, _⟩
    skip
    refine sd_st 2 rfl rfl rfl rfl rfl rfl rfl rfl rfl (show stO (evC x) 2 _ = some (evC { x with dv := .slice A1 x.deps.length c1 }) from rfl) rfl (ent_nil _) ?_
    (refine sd_1 rfl (.inl rfl) ?_)
    refine sd_st 2 rfl rfl rfl rfl rfl rfl rfl rfl rfl (show stO _ 38 _ = some (evC (x.own (.slice A1 x.deps.length c1) (.slice A2 x.refs.length c2))) from evC_strv (e := { x with dv := .slice A1 x.deps.length c1 }) hx32) rfl (ent_nil _) ?_
    refine sd_nil ?_
    have hyl := evC_len (e := x.own (.slice A1 x.deps.length c1) (.slice A2 x.refs.length c2)) hx32
    have hy1 := evC_one (e := x.own (.slice A1 x.deps.length c1) (.slice A2 x.refs.length c2)) rfl rfl
    have hyn : nE (x.own (.slice A1 x.deps.length c1) (.slice A2 x.refs.length c2)) = nE x := rfl
    have hyP : evP (x.own (.slice A1 x.deps.length c1) (.slice A2 x.refs.length c2)) = [rZ (.slice A1 x.deps.length c1) x.deps, rD (.slice A2 x.refs.length c2) x.refs] := rfl
    generalize x.own (.slice A1 x.deps.length c1) (.slice A2 x.refs.length c2) = y at *
    (refine sn_then ?_; refine sw_region ?_; refine so_1 rfl ?_)
    refine so_ldA 2 rfl rfl rfl rfl rfl rfl (segO_all (by rw [hyl]; rfl)) rfl ?_
    refine so_lit1 rfl rfl rfl rfl rfl rfl rfl hyl (by decide) fun gl => ?_
    refine so_append 4 rfl rfl rfl rfl rfl rfl rfl rfl rfl (m := 1) (news := evC y) (fun w H => (H.blk (k := 0) rfl).sl (by rw [hyl]) (by decide)) hy1 (by omega) (fun _ => rfl) fun v8 => ?_
    refine so_fact (fun w H => (H.oat (k := 4) rfl).form) ?_
    rintro ⟨A7, c7, rfl, _, _, _⟩
    (refine so_1 rfl ?_; refine so_nil ?_; refine sn_block ?_; refine sn_then ?_; refine sw_region ?_; refine so_2 rfl (by (unfold I64; omega)) ?_; refine so_1 rfl ?_; refine so_nil ?_)
    refine sn_ent (G := evP y ++ (all (evF D) :: row t_event_place 39 (.slice A7 (o + 1) c7) (o + 1) (evsC (D ++ [y])) :: F)) ?_ ?_
    · rw [hyP, evsC_snoc]
      exact ent_keep 6 [2, 1, 5, 4] rfl rfl
    refine sn_ent (ent_in (A := evF (D ++ [y])) evF_snoc) ?_
    refine sn_round (i + 1, D ++ [y], o + 1, A7, c7) ⟨rfl, rfl, rfl, rfl, rfl, trivial⟩ (ent_keep 2 [1, 0] rfl rfl) ⟨h1', by dsimp only; rw [hsn, List.map_append]; simp [hyn], by simp [ho]⟩ (by dsimp only; omega)
  · obtain rfl : i = l.length := by omega
    rw [List.take_length] at hD
    subst ho
    have hkD := evM_map hk hD
    (refine sw_exit ?_; refine sn_then_exit ?_; refine sn_loop_exit ?_; refine sn_block_exit ?_; refine sn_then ?_; refine sw_seq ?_; refine sw_region ?_; refine so_1 rfl ?_)
    refine so_fact (p := ∀ e ∈ D, EvK e) (fun w H e he => by
      have := er_form (evF_er (k := 1) rfl he w H)
      exact ⟨(hkD e he).l32, this.1, this.2⟩) fun hK => ?_
    have e9 : row t_event_place 39 (.slice A D.length c) D.length (evsC D) = rPl A c D.length (tag 0 D) := by
      simp only [rPl, flC_snd, tag_snd]
    rw [e9]
    refine so_call rfl rfl rfl (sortStable_S (b := b) (F := all (evF D) :: F) (A := A) (c := c) (tag_fst D) (fun m hm => evF_er (k := 0) rfl (tag_mem hm)) (fun m hm => hK _ (tag_mem hm)) (tag_len D 0) (by omega)) ?_
    rintro _ _ ⟨M, g1, g2, rfl⟩
    have hML : M.length = D.length := by rw [g1.length_eq, tag_len]
    have hKM : ∀ m ∈ M, EvK m.2 := fun m hm => hK _ (tag_mem (g1.mem_iff.1 hm))
    have hSp : (M.map Prod.snd).Perm D := by
      have := g1.map Prod.snd
      rwa [tag_snd] at this
    refine so_fact (fun w H => (H.oat (k := 0) rfl).form) ?_
    rintro ⟨A', c', hv', _, _, q3⟩
    cases hv'
    (refine so_nil ?_; refine sn_then ?_; (iterate 2 refine sw_seq ?_); refine sw_region ?_; (iterate 3 refine so_1 rfl ?_); refine so_nil ?_; refine sn_then ?_; refine sw_block ?_)
    refine sw_loop (S := Nat × Nat × Option Addr × Nat) (fun s => [(2, .slice s.2.2.1 s.2.1 s.2.2.2), (29, .slice A D.length c), (30, .int .i64 (D.length : Int)), (31, .int .i64 (s.1 : Int))])
      (fun s => rPl A c D.length M :: row t_api_Event 39 (.slice s.2.2.1 s.2.1 s.2.2.2) s.2.1 (evsC ((M.map Prod.snd).take s.1)) :: all (evF D) :: F) (fun s => s.1 ≤ D.length ∧ s.2.1 = s.1) (fun s => D.length - s.1) (0, 0, none, 0) ⟨rfl, rfl, rfl, rfl, trivial⟩ ?_ ⟨Nat.zero_le _, rfl⟩ ?_
    · exact (ent_row_nil t_api_Event 39 rfl).trans (ent_keep 2 [1, 0] rfl rfl)
    rintro ⟨i0, i, A8, c8⟩ ⟨hi, ho2⟩
    dsimp only at hi ho2 ⊢
    subst ho2
    (refine sw_seq ?_; refine sw_region ?_; refine so_1 rfl ?_; refine so_nil ?_; refine sn_then ?_; refine sw_seq ?_)
    refine sw_if rfl (fun h3 => ?_) (fun h3 => ?_)
    · obtain ⟨gg, oo, rfl⟩ := q3 (by omega)
      have hiM : i < M.length := by omega
      have hx := List.getElem?_eq_getElem hiM
      have fx := pl_seg hKM hx
      have kx := evK_at hKM hx
      have xl := evC_len kx.l32
      have x1 := evC_one kx.d1 kx.r1
      have hts : (M.map Prod.snd).take (i + 1) = (M.map Prod.snd).take i ++ [M[i].2] := by
        rw [List.take_succ_eq_append_getElem (by rw [List.length_map]; exact hiM), List.getElem_map]
      generalize hT : (M.map Prod.snd).take i = T at *
      generalize M[i] = x at *
      (refine sw_skip ?_; refine sn_then ?_; refine sw_seq ?_; refine sw_block ?_; refine sw_seq ?_; refine sw_region ?_; refine so_2 rfl (by omega) ?_)
      refine so_ldrow 0 (i * 39) rfl rfl rfl rfl rfl rfl rfl (by rw [mulz_eq, Int.toNat_natCast]) (by omega) fx (by rw [xl]; rfl) ?_
      refine so_new rfl rfl rfl rfl rfl fun g7 => ?_
      refine so_stW 0 rfl rfl rfl rfl rfl rfl rfl xl x1 (by rw [xl]; rfl) ?_
      (refine so_nil ?_; refine sn_then ?_; refine sw_region ?_; refine so_1 rfl ?_)
      refine so_ldA 0 rfl rfl rfl rfl rfl rfl (segO_all (by rw [xl]; rfl)) rfl ?_
      refine so_lit1 rfl rfl rfl rfl rfl rfl rfl xl (by decide) fun gl => ?_
      refine so_append 3 rfl rfl rfl rfl rfl rfl rfl rfl rfl (m := 1) (news := evC x.2) (fun w H => (H.blk (k := 0) rfl).sl (by rw [xl]) (by decide)) x1 (by omega) (fun _ => rfl) fun v8 => ?_
      refine so_fact (fun w H => (H.oat (k := 3) rfl).form) ?_
      rintro ⟨A9, c9, rfl, _, _, _⟩
      (refine so_1 rfl ?_; refine so_nil ?_; refine sn_block ?_; refine sn_then ?_; refine sw_region ?_; refine so_2 rfl (by (unfold I64; omega)) ?_; refine so_1 rfl ?_; refine so_nil ?_)
      refine sn_round (i + 1, i + 1, A9, c9) ⟨rfl, rfl, rfl, rfl, trivial⟩ ?_ ⟨by dsimp only; omega, rfl⟩ (by dsimp only; omega)
      dsimp only
      rw [hts, evsC_snoc]
      exact ent_keep 4 [2, 3] rfl rfl
    · obtain rfl : i = D.length := by omega
      have hall : (M.map Prod.snd).take D.length = M.map Prod.snd := List.take_of_length_le (by rw [List.length_map]; omega)
      rw [hall]
      (refine sw_exit ?_; refine sn_then_exit ?_; refine sn_loop_exit ?_; refine sn_block_exit ?_; refine sn_then ?_; refine sw_seq ?_; refine sw_region ?_; (iterate 2 refine so_1 rfl ?_); refine so_nil ?_; refine sn_then ?_; refine sw_ret ?_)
      have hlenS : D.length = (M.map Prod.snd).length := by rw [List.length_map, hML]
      refine sn_ret rfl (.tmp rfl .nil) ((ent_keep 2 [1] rfl rfl).trans (ent_set 1 rfl (fun h hh => ent_perm (evF_perm hSp.symm) h hh) rfl)) ?_
      refine ⟨M.map Prod.snd, by rw [← hD]; exact isSort_nE g1 g2 rfl, ?_⟩
      rw [rEs, ← hlenS]
      rfl
end
end Go.Proofs.YtaglpaoipdmboaaGreat
/- Stable sorting, part twelve: the document's order of events; events copied, compared. Conditions: not too many. -/
namespace Go.Proofs.YtaglpaoipdmboaaGreat
open Go Go.Eng Go.RowKit

section
variable {α : Type} {f : α → List Value} {l : List α} {sz : Nat}
end
section
variable {b : World} {F : List SP} {l : List Ev}
end
end Go.Proofs.YtaglpaoipdmboaaGreat
