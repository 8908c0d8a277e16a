/- Stable sorting, part one: the plain law. Things with their places; sorted pieces joined. Conditions: the order is one of classes. -/
import Derived.Test.YtaglpaoipdmboaaGreatM4
import Derived.Test.YtaglpaoipdmboaaGreatM5
import Derived.Test.YtaglpaoipdmboaaGreatM3
namespace Go.Proofs.YtaglpaoipdmboaaGreat

section
variable {β : Type} {lt : β → β → Bool} {ok : β → Prop}
/-- Ahead, or alike and ahead in place. -/
def tl (lt : β → β → Bool) (x y : Nat × β) : Prop := lt x.2 y.2 = true ∨ (lt y.2 x.2 = false ∧ x.1 < y.1)
abbrev Srt (lt : β → β → Bool) (l : List (Nat × β)) : Prop := l.Pairwise (tl lt)
def Oks (ok : β → Prop) (l : List (Nat × β)) : Prop := ∀ x ∈ l, ok x.2
end
end Go.Proofs.YtaglpaoipdmboaaGreat
/- Stable sorting, part two: the plain law of blocks that are sorted, and joined two by two. Conditions: the order is one of classes. -/
namespace Go.Proofs.YtaglpaoipdmboaaGreat

section
variable {β : Type} {lt : β → β → Bool} {ok : β → Prop}
/-- All places of the first ones lie ahead of those of the others. -/
def Ahead (L R : List (Nat × β)) : Prop := ∀ x ∈ L, ∀ y ∈ R, x.1 < y.1
theorem Ahead.perm {L R L' R' : List (Nat × β)} (h : Ahead L R) (hl : L'.Perm L) (hr : R'.Perm R) : Ahead L' R' := fun x hx y hy => h x (hl.mem_iff.1 hx) y (hr.mem_iff.1 hy)
theorem Oks.perm {L L' : List (Nat × β)} (h : Oks ok L) (hl : L'.Perm L) : Oks ok L' := fun x hx => h x (hl.mem_iff.1 hx)
theorem Oks.left {L R : List (Nat × β)} (h : Oks ok (L ++ R)) : Oks ok L := fun x hx => h x (List.mem_append_left _ hx)
theorem Oks.right {L R : List (Nat × β)} (h : Oks ok (L ++ R)) : Oks ok R := fun x hx => h x (List.mem_append_right _ hx)
theorem Oks.app {L R : List (Nat × β)} (h : Oks ok L) (h2 : Oks ok R) : Oks ok (L ++ R) := fun x hx => by
  rcases List.mem_append.1 hx with hx | hx
  · exact h x hx
  · exact h2 x hx
/-- A piece that was turned, seen thing by thing. -/
theorem piece_at {A L M B : List (Nat × β)} (hp : M.Perm L) {j : Nat} {x : Nat × β} (hj : (A ++ M ++ B)[j]? = some x) :
    (j < A.length ∧ (A ++ L ++ B)[j]? = some x) ∨ (A.length ≤ j ∧ j < A.length + L.length ∧ M[j - A.length]? = some x ∧ x ∈ L) ∨ (A.length + L.length ≤ j ∧ (A ++ L ++ B)[j]? = some x) := by
  have hl := hp.length_eq
  rw [List.append_assoc, List.getElem?_append] at hj
  rw [List.append_assoc, List.getElem?_append]
  split at hj
  · rename_i h; rw [if_pos h]; exact .inl ⟨h, hj⟩
  · rename_i h
    rw [List.getElem?_append] at hj
    split at hj
    · exact .inr (.inl ⟨by omega, by omega, hj, hp.mem_iff.1 (List.mem_of_getElem? hj)⟩)
    · refine .inr (.inr ⟨by omega, ?_⟩)
      rw [if_neg h, List.getElem?_append_right (by omega), ← hl]; exact hj
theorem piece_mem {A L B : List (Nat × β)} {x : Nat × β} (h : x ∈ L) : ∃ j, A.length ≤ j ∧ j < A.length + L.length ∧ (A ++ L ++ B)[j]? = some x := by
  obtain ⟨i, hi, rfl⟩ := List.getElem_of_mem h
  refine ⟨A.length + i, by omega, by omega, ?_⟩
  rw [List.append_assoc, List.getElem?_append_right (by omega), List.getElem?_append_left (by omega), show A.length + i - A.length = i by omega, List.getElem?_eq_getElem hi]
theorem piece_srt {A L B : List (Nat × β)} (h : ∀ i j x y, A.length ≤ i → i < j → j < A.length + L.length → (A ++ L ++ B)[i]? = some x → (A ++ L ++ B)[j]? = some y → tl lt x y) : Srt lt L := by
  refine List.pairwise_iff_getElem.2 fun i j hi hj hij => h (A.length + i) (A.length + j) _ _ (by omega) (by omega) (by omega) ?_ ?_
  · rw [List.append_assoc, List.getElem?_append_right (by omega), List.getElem?_append_left (by omega), show A.length + i - A.length = i by omega, List.getElem?_eq_getElem hi]
  · rw [List.append_assoc, List.getElem?_append_right (by omega), List.getElem?_append_left (by omega), show A.length + j - A.length = j by omega, List.getElem?_eq_getElem hj]

/-- Blocks of w as far as a, of z behind it: what stands in a block was there at first; each is sorted. -/
structure BI (lt : β → β → Bool) (D : List (Nat × β)) (a w z : Nat) (X : List (Nat × β)) : Prop where
  perm : X.Perm D
  lo : ∀ j x, X[j]? = some x → j < a → x.1 / w = j / w
  hi : ∀ j x, X[j]? = some x → a ≤ j → x.1 / z = j / z
  slo : ∀ i j x y, X[i]? = some x → X[j]? = some y → i < j → j < a → i / w = j / w → tl lt x y
  shi : ∀ i j x y, X[i]? = some x → X[j]? = some y → i < j → a ≤ i → i / z = j / z → tl lt x y
theorem BI.len {D X : List (Nat × β)} {a w z : Nat} (h : BI lt D a w z X) : X.length = D.length := h.perm.length_eq
/-- The next blocks have become one. -/
theorem BI.step {D X A L M B : List (Nat × β)} {a w z b q : Nat} (h : BI lt D a w z X) (hz : 0 < z) (hw : w = q * z) (hq : 0 < q) (e : X = A ++ L ++ B) (ha : A.length = a) (haw : w ∣ a) (hb : A.length + L.length = b) (hbw : b ≤ a + w) (hbe : b = a + w ∨ B = []) (hp : M.Perm L) (hs : Srt lt M) :
    BI lt D b w z (A ++ M ++ B) := by
  have hw0 : 0 < w := by rw [hw]; exact Nat.mul_pos hq hz
  obtain ⟨k, rfl⟩ := haw
  have hza : ∀ j, z * (j / z) ≤ j ∧ j < z * (j / z) + z := fun j => ⟨Nat.mul_div_le j z, by have := Nat.lt_mul_div_succ j hz; rw [Nat.mul_succ] at this; exact this⟩
  have dz : ∀ p, p / w = p / z / q := fun p => by rw [hw, Nat.mul_comm q z, Nat.div_div_eq_div_mul]
  have inb : ∀ j, w * k ≤ j → j < b → j / w = k := fun j h1 h2 => by
    have : j / w < k + 1 := Nat.div_lt_of_lt_mul (by rw [Nat.mul_succ]; omega)
    have : k ≤ j / w := (Nat.le_div_iff_mul_le hw0).2 (by rw [Nat.mul_comm]; exact h1)
    omega
  refine ⟨?_, fun j x hj hjb => ?_, fun j x hj hjb => ?_, fun i j x y hi hj hij hjb hd => ?_, fun i j x y hi hj hij hjb hd => ?_⟩
  · refine (List.Perm.append_right B (List.Perm.append_left A hp)).trans ?_
    rw [← e]; exact h.perm
  · rcases piece_at hp hj with ⟨h1, h2⟩ | ⟨h1, h2, h3, h4⟩ | ⟨h1, h2⟩
    · exact h.lo j x (e ▸ h2) (ha ▸ h1)
    · obtain ⟨j', q1, q2, q3⟩ := piece_mem (A := A) (B := B) h4
      have := h.hi j' x (e ▸ q3) (ha ▸ q1)
      rw [dz, this, ← dz, inb j' (ha ▸ q1) (by omega), inb j (ha ▸ h1) (by omega)]
    · omega
  · rcases piece_at hp hj with ⟨h1, h2⟩ | ⟨h1, h2, h3, h4⟩ | ⟨h1, h2⟩
    · omega
    · omega
    · exact h.hi j x (e ▸ h2) (by omega)
  · have hjl : j < b := hjb
    rcases piece_at hp hi with ⟨i1, i2⟩ | ⟨i1, i2, i3, i4⟩ | ⟨i1, i2⟩ <;> rcases piece_at hp hj with ⟨j1, j2⟩ | ⟨j1, j2, j3, j4⟩ | ⟨j1, j2⟩ <;> try omega
    · exact h.slo i j x y (e ▸ i2) (e ▸ j2) hij (ha ▸ j1) hd
    · exfalso
      have q1 := inb j (ha ▸ j1) hjl
      have q2 : i / w < k := Nat.div_lt_of_lt_mul (by omega)
      omega
    · obtain ⟨hi1, rfl⟩ := List.getElem?_eq_some_iff.1 i3
      obtain ⟨hj1, rfl⟩ := List.getElem?_eq_some_iff.1 j3
      exact List.pairwise_iff_getElem.1 hs _ _ hi1 hj1 (by omega)
  · rcases piece_at hp hi with ⟨i1, i2⟩ | ⟨i1, i2, i3, i4⟩ | ⟨i1, i2⟩ <;> rcases piece_at hp hj with ⟨j1, j2⟩ | ⟨j1, j2, j3, j4⟩ | ⟨j1, j2⟩ <;> try omega
    exact h.shi i j x y (e ▸ i2) (e ▸ j2) hij (by omega) hd
/-- All blocks are done: the next round. -/
theorem BI.next {D X : List (Nat × β)} {a w z : Nat} (h : BI lt D a w z X) (ha : X.length ≤ a) (w2 : Nat) : BI lt D 0 w2 w X :=
  ⟨h.perm, fun j x _ hj => absurd hj (Nat.not_lt_zero j), fun j x hj _ => h.lo j x hj (Nat.lt_of_lt_of_le (List.getElem?_eq_some_iff.1 hj).1 ha), fun i j x y _ _ _ hj => absurd hj (Nat.not_lt_zero j),
    fun i j x y hi hj hij _ hd => h.slo i j x y hi hj hij (Nat.lt_of_lt_of_le (List.getElem?_eq_some_iff.1 hj).1 ha) hd⟩
/-- What is left is one block already. -/
theorem BI.rest {D X : List (Nat × β)} {a w z q : Nat} (h : BI lt D a w z X) (hz : 0 < z) (hw : w = q * z) (hq : 0 < q) (haw : w ∣ a) (hl : X.length ≤ a + z) : BI lt D (a + z) w z X := by
  have hw0 : 0 < w := by rw [hw]; exact Nat.mul_pos hq hz
  obtain ⟨k, rfl⟩ := haw
  have dz : ∀ p, p / w = p / z / q := fun p => by rw [hw, Nat.mul_comm q z, Nat.div_div_eq_div_mul]
  have hzw : z ≤ w := by rw [hw]; exact Nat.le_mul_of_pos_left z hq
  have inb : ∀ j, w * k ≤ j → j < w * k + z → j / w = k ∧ j / z = w * k / z := fun j h1 h2 => by
    have : j / w < k + 1 := Nat.div_lt_of_lt_mul (by rw [Nat.mul_succ]; omega)
    have : k ≤ j / w := (Nat.le_div_iff_mul_le hw0).2 (by rw [Nat.mul_comm]; exact h1)
    refine ⟨by omega, ?_⟩
    have e : w * k = q * k * z := by rw [hw, Nat.mul_right_comm]
    rw [e, Nat.mul_div_cancel _ hz]
    rw [e] at h1 h2
    have a1 : j / z < q * k + 1 := Nat.div_lt_of_lt_mul (by rw [Nat.mul_succ, Nat.mul_comm z]; omega)
    have a2 : q * k ≤ j / z := (Nat.le_div_iff_mul_le hz).2 h1
    omega
  refine ⟨h.perm, fun j x hj hjb => ?_, fun j x hj hjb => ?_, fun i j x y hi hj hij hjb hd => ?_, fun i j x y hi hj hij hjb hd => ?_⟩
  · rcases Nat.lt_or_ge j (w * k) with h1 | h1
    · exact h.lo j x hj h1
    · have := h.hi j x hj h1
      rw [dz, this, ← dz]
  · have := (List.getElem?_eq_some_iff.1 hj).1; omega
  · have hjl := (List.getElem?_eq_some_iff.1 hj).1
    rcases Nat.lt_or_ge j (w * k) with h1 | h1
    · exact h.slo i j x y hi hj hij h1 hd
    · rcases Nat.lt_or_ge i (w * k) with h2 | h2
      · have q1 := (inb j h1 hjb).1
        have q2 : i / w < k := Nat.div_lt_of_lt_mul h2
        omega
      · exact h.shi i j x y hi hj hij h2 (by rw [(inb i h2 (by omega)).2, (inb j h1 hjb).2])
  · have := (List.getElem?_eq_some_iff.1 hi).1; omega
/-- One block: all is sorted. -/
theorem BI.done {D X : List (Nat × β)} {w z : Nat} (h : BI lt D 0 w z X) (hl : X.length ≤ z) : Srt lt X :=
  List.pairwise_iff_getElem.2 fun i j hi hj hij => h.shi i j _ _ (List.getElem?_eq_getElem hi) (List.getElem?_eq_getElem hj) hij (Nat.zero_le _) (by rw [Nat.div_eq_of_lt (by omega), Nat.div_eq_of_lt (by omega)])
/-- The next block as it stands: two sorted pieces, one ahead of the other. -/
theorem BI.two {D X A L R B : List (Nat × β)} {a z : Nat} (h : BI lt D a (2 * z) z X) (hz : 0 < z) (e : X = A ++ (L ++ R) ++ B) (ha : A.length = a) (haw : 2 * z ∣ a) (hL : L.length = z) (hR : R.length ≤ z) : Srt lt L ∧ Srt lt R ∧ Ahead L R := by
  obtain ⟨k, rfl⟩ := haw
  have e1 : 2 * z * k = 2 * k * z := by rw [Nat.mul_right_comm]
  have l1 : ∀ j, 2 * z * k ≤ j → j < 2 * z * k + z → j / z = 2 * k := fun j h1 h2 => by
    rw [e1] at h1 h2
    have a1 : j / z < 2 * k + 1 := Nat.div_lt_of_lt_mul (by rw [Nat.mul_succ, Nat.mul_comm z]; omega)
    have a2 : 2 * k ≤ j / z := (Nat.le_div_iff_mul_le hz).2 h1
    omega
  have l2 : ∀ j, 2 * z * k + z ≤ j → j < 2 * z * k + z + z → j / z = 2 * k + 1 := fun j h1 h2 => by
    rw [e1] at h1 h2
    have a1 : j / z < 2 * k + 1 + 1 := Nat.div_lt_of_lt_mul (by rw [Nat.mul_succ, Nat.mul_succ, Nat.mul_comm z]; omega)
    have a2 : 2 * k + 1 ≤ j / z := (Nat.le_div_iff_mul_le hz).2 (by rw [Nat.succ_mul]; exact h1)
    omega
  have eL : X = A ++ L ++ (R ++ B) := by rw [e]; simp only [List.append_assoc]
  have eR : X = (A ++ L) ++ R ++ B := by rw [e]; simp only [List.append_assoc]
  have lAL : (A ++ L).length = 2 * z * k + z := by rw [List.length_append, ha, hL]
  refine ⟨piece_srt (A := A) (B := R ++ B) fun i j x y h1 h2 h3 h4 h5 => ?_, piece_srt (A := A ++ L) (B := B) fun i j x y h1 h2 h3 h4 h5 => ?_, fun x hx y hy => ?_⟩
  · exact h.shi i j x y (eL ▸ h4) (eL ▸ h5) h2 (by omega) (by rw [l1 i (by omega) (by omega), l1 j (by omega) (by omega)])
  · exact h.shi i j x y (eR ▸ h4) (eR ▸ h5) h2 (by omega) (by rw [l2 i (by omega) (by omega), l2 j (by omega) (by omega)])
  · obtain ⟨i, h1, h2, h3⟩ := piece_mem (A := A) (B := R ++ B) hx
    obtain ⟨j, h4, h5, h6⟩ := piece_mem (A := A ++ L) (B := B) hy
    have a1 := h.hi i x (eL ▸ h3) (by omega)
    have a2 := h.hi j y (eR ▸ h6) (by omega)
    rw [l1 i (by omega) (by omega)] at a1
    rw [l2 j (by omega) (by omega)] at a2
    have b1 := Nat.lt_of_div_lt_div (a := x.1) (b := y.1) (c := z) (by omega)
    exact b1
/-- The next block as it stood at first: places rise. -/
theorem BI.rise {D X A L B : List (Nat × β)} {a w : Nat} (h : BI lt D a w 1 X) (e : X = A ++ L ++ B) (ha : A.length = a) : L.Pairwise (fun x y => x.1 < y.1) := by
  refine List.pairwise_iff_getElem.2 fun i j hi hj hij => ?_
  have key : ∀ i (hi : i < L.length), L[i].1 = a + i := fun i hi => by
    have := h.hi (A.length + i) L[i] (by rw [e, List.append_assoc, List.getElem?_append_right (by omega), List.getElem?_append_left (by omega), show A.length + i - A.length = i by omega, List.getElem?_eq_getElem hi]) (by omega)
    rw [Nat.div_one, Nat.div_one] at this; omega
  rw [key i hi, key j hj]; omega
end
end Go.Proofs.YtaglpaoipdmboaaGreat
/- Stable sorting, part three: events compared; two of them exchanged; ranges of them exchanged. Conditions: none. -/
namespace Go.Proofs.YtaglpaoipdmboaaGreat
open Go Go.Eng Go.RowKit

def evLt (x y : Ev) : Bool := lessL x.r x.n x.deps y.r y.n y.deps
section
variable {b : World} {F : List SP} {x y : Ev}
theorem eLess_S (hx : ∀ w, Sat b F w → ER w x) (hy : ∀ w, Sat b F w → ER w y) : SC Tryz.prog n_event_Less [evV x, evV y] b F (fun v F' => v = .bool (evLt x y) ∧ F' = F) := by
  refine enterS F_event_Less rfl rfl rfl ?_
  (refine sw_seq ?_; refine sw_region ?_)
  refine so_box rfl rfl rfl rfl rfl fun g2 => ?_
  skip
  refine so_box rfl rfl rfl rfl rfl fun g3 => ?_
  (refine so_1 rfl ?_; refine so_nil ?_; refine sn_then ?_; refine sw_seq ?_; refine sw_region ?_; refine so_1 rfl ?_; refine so_l 1 rfl rfl rfl ?_; refine so_1 rfl ?_; refine so_l 1 rfl rfl rfl ?_; refine so_1 rfl ?_; refine so_l 0 rfl rfl rfl ?_; refine so_1 rfl ?_; refine so_l 0 rfl rfl rfl ?_)
  refine so_callE rfl rfl rfl ((SC.ofExt fun w H => Less_spec (up hx (ent_keep 2 [] rfl rfl) w H).dv (up hy (ent_keep 2 [] rfl rfl) w H).dv)) ?_
  (refine so_1 rfl ?_; refine so_nil ?_; refine sn_then ?_; refine sw_ret ?_)
  refine sn_ret rfl (.tmp rfl .nil) (ent_keep 2 [] rfl rfl) ?_
  exact ⟨rfl, rfl⟩
theorem rLess_S (hx : ∀ w, Sat b F w → ER w x) (hy : ∀ w, Sat b F w → ER w y) (lx : x.deps.length ≤ 1000000) (ly : y.deps.length ≤ 1000000) : SC Tryz.prog n_entrepotref19_Less [evV x, evV y] b F (fun v F' => v = .bool (evLt x y) ∧ F' = F) := by
  refine enterS F_entrepotref19_Less rfl rfl rfl ?_
  (refine sw_seq ?_; refine sw_region ?_)
  refine so_box rfl rfl rfl rfl rfl fun g2 => ?_
  skip
  refine so_box rfl rfl rfl rfl rfl fun g3 => ?_
  (refine so_1 rfl ?_; refine so_nil ?_; refine sn_then ?_; refine sw_seq ?_; refine sw_region ?_; refine so_1 rfl ?_; refine so_l 1 rfl rfl rfl ?_; refine so_1 rfl ?_; refine so_l 1 rfl rfl rfl ?_; refine so_1 rfl ?_; refine so_l 0 rfl rfl rfl ?_; refine so_1 rfl ?_; refine so_l 0 rfl rfl rfl ?_)
  refine so_callE rfl rfl rfl ((SC.ofExt fun w H => refLess_spec (up hx (ent_keep 2 [] rfl rfl) w H).dv (up hy (ent_keep 2 [] rfl rfl) w H).dv (by omega) (by omega))) ?_
  (refine so_1 rfl ?_; refine so_nil ?_; refine sn_then ?_; refine sw_ret ?_)
  refine sn_ret rfl (.tmp rfl .nil) (ent_keep 2 [] rfl rfl) ?_
  exact ⟨rfl, rfl⟩
end
section
variable {b : World} {F : List SP} {D : List (Nat × Ev)} {A : Option Addr} {c n : Nat}
end
end Go.Proofs.YtaglpaoipdmboaaGreat
/- Stable sorting, part four: ranges exchanged, pieces turned round; sorting by insertion. Conditions: none. -/
namespace Go.Proofs.YtaglpaoipdmboaaGreat
open Go Go.Eng Go.RowKit

section
variable {b : World} {F : List SP} {D : List (Nat × Ev)} {A : Option Addr} {c n : Nat} {fv : Value}
end
end Go.Proofs.YtaglpaoipdmboaaGreat
/- Stable sorting, part five: pieces turned round. Conditions: none. -/
namespace Go.Proofs.YtaglpaoipdmboaaGreat
open Go Go.Eng Go.RowKit

section
variable {b : World} {F : List SP} {A : Option Addr} {c n : Nat} {fv : Value}
end
end Go.Proofs.YtaglpaoipdmboaaGreat
/- Stable sorting, part six: sorting by insertion. Conditions: none. -/
namespace Go.Proofs.YtaglpaoipdmboaaGreat
open Go Go.Eng Go.RowKit

section
variable {b : World} {F : List SP} {A : Option Addr} {c n : Nat}
end
end Go.Proofs.YtaglpaoipdmboaaGreat
/- Stable sorting, part seven: two sorted pieces joined; the plain law of what the search finds. Conditions: none. -/
namespace Go.Proofs.YtaglpaoipdmboaaGreat
open Go Go.Eng Go.RowKit

section
variable {x : Nat × Ev} {S T : List (Nat × Ev)}
end
end Go.Proofs.YtaglpaoipdmboaaGreat
/- Stable sorting, part eight: two sorted pieces joined, walked. Conditions: none. -/
namespace Go.Proofs.YtaglpaoipdmboaaGreat
open Go Go.Eng Go.RowKit

section
variable {b : World} {F : List SP} {c n : Nat}
end
end Go.Proofs.YtaglpaoipdmboaaGreat
/- Stable sorting, part nine: the whole. Conditions: at most a hundred thousand things. -/
namespace Go.Proofs.YtaglpaoipdmboaaGreat
open Go Go.Eng Go.RowKit

section
variable {b : World} {F : List SP} {A : Option Addr} {c n : Nat}
end
end Go.Proofs.YtaglpaoipdmboaaGreat
/- Stable sorting, part ten: the order of events, as a list tells it. Conditions: none. -/
namespace Go.Proofs.YtaglpaoipdmboaaGreat
open Go Go.Eng Go.RowKit

def tag {α : Type} (i : Nat) : List α → List (Nat × α)
  | [] => []
  | x :: l => (i, x) :: tag (i + 1) l
theorem tag_snd {α : Type} (l : List α) (i : Nat) : (tag i l).map Prod.snd = l := by
  induction l generalizing i with
  | nil => rfl
  | cons x l ih => simp only [tag, List.map_cons, ih]
/-- Told in order: just one list. -/
def IsSort (l S : List Ev) : Prop := ∃ M : List (Nat × Ev), M.Perm (tag 0 l) ∧ Srt evLt M ∧ M.map Prod.snd = S
theorem IsSort.perm {l S : List Ev} (h : IsSort l S) : S.Perm l := by
  obtain ⟨M, p, s, rfl⟩ := h
  have := p.map Prod.snd
  rwa [tag_snd] at this
theorem IsSort.nil : IsSort [] [] := ⟨[], .refl _, List.Pairwise.nil, rfl⟩
end Go.Proofs.YtaglpaoipdmboaaGreat
/- Stable sorting, part eleven: the program's order of events; events copied. Conditions: not too many. -/
namespace Go.Proofs.YtaglpaoipdmboaaGreat
open Go Go.Eng Go.RowKit

/-- As many as may be copied. -/
structure EvM (e : Ev) : Prop where
  l32 : e.id.length = 32
  dn : e.deps.length ≤ 1000000
  rn : e.refs.length ≤ 1000000
theorem EvM.own {e : Ev} (h : EvM e) (dv rv : Value) : EvM (e.own dv rv) := ⟨h.l32, h.dn, h.rn⟩
theorem EvM.nE {e f : Ev} (h : EvM e) (hf : nE f = nE e) : EvM f := by
  obtain ⟨dv, rv, rfl⟩ := nE_eq hf.symm
  exact ⟨h.l32, h.dn, h.rn⟩
theorem er_form {w : World} {e : Ev} (h : ER w e) : e.dv.oneCell' = true ∧ e.rv.oneCell' = true := by
  obtain ⟨A, c, hd, _⟩ := h.dv.form
  obtain ⟨A2, c2, hr, _⟩ := sl_form h.rv
  exact ⟨by rw [hd]; rfl, by rw [hr]; rfl⟩
section
variable {b : World} {F : List SP} {l : List Ev}
end
end Go.Proofs.YtaglpaoipdmboaaGreat
/- Stable sorting, part twelve: the document's order of events; events copied, compared. Conditions: not too many. -/
namespace Go.Proofs.YtaglpaoipdmboaaGreat
open Go Go.Eng Go.RowKit

section
variable {α : Type} {f : α → List Value} {l : List α} {sz : Nat}
end
section
variable {b : World} {F : List SP} {l : List Ev}
end
end Go.Proofs.YtaglpaoipdmboaaGreat
