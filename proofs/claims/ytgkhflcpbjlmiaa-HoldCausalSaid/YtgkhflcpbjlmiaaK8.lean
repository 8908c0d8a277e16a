/- Queues, part thirty-eight: the plain law of delivery: each event once, whoever is needed ahead, and all of them. Conditions: none. -/
import Derived.Test.YtgkhflcpbjlmiaaK6
import Derived.Test.YtgkhflcpbjlmiaaK5
import Derived.Test.YtgkhflcpbjlmiaaK7
namespace Go.Proofs.Ytgkhflcpbjlmiaa
open Go.Eng Go.RowKit Go.WideMaps Go.Heap

/-- An event as it was made: region, number, Deps. -/
abbrev Em := Int × Int × List Int
def cnt (q : Int) (A : List Em) : Int := ((A.filter fun e => decide (e.1 = q)).length : Int)
theorem cnt_nonneg (q : Int) (A : List Em) : 0 ≤ cnt q A := Int.natCast_nonneg _
theorem cnt_snoc (q : Int) (A : List Em) (e : Em) : cnt q (A ++ [e]) = cnt q A + if e.1 = q then 1 else 0 := by
  unfold cnt
  rw [List.filter_append, List.length_append]
  by_cases h : e.1 = q
  · simp [h]
  · simp [h]
theorem cnt_app (q : Int) (A B : List Em) : cnt q A ≤ cnt q (A ++ B) := by
  unfold cnt
  rw [List.filter_append, List.length_append]; omega
theorem cnt_le (q : Int) (A : List Em) : cnt q A ≤ A.length := by
  unfold cnt
  have := List.length_filter_le (fun e : Em => decide (e.1 = q)) A
  omega
theorem take_snoc {α : Type} {A : List α} {i : Nat} (h : i < A.length) : A.take (i + 1) = A.take i ++ [A[i]] := List.take_succ_eq_append_getElem h
theorem cnt_take (q : Int) (A : List Em) {i j : Nat} (h : i ≤ j) : cnt q (A.take i) ≤ cnt q (A.take j) := by
  have : A.take j = A.take i ++ (A.take j).drop i := by
    conv => lhs; rw [← List.take_append_drop i (A.take j)]
    rw [List.take_take, Nat.min_eq_left h]
  rw [this]; exact cnt_app _ _ _
structure Md (n : Nat) (A : List Em) : Prop where
  r : ∀ i (hi : i < A.length), 1 ≤ A[i].1 ∧ A[i].1 ≤ n
  m : ∀ i (hi : i < A.length), A[i].2.1 = cnt A[i].1 (A.take i) + 1
  len : ∀ i (hi : i < A.length), A[i].2.2.length = n
  own : ∀ i (hi : i < A.length), A[i].2.2.getD (A[i].1 - 1).toNat 0 = A[i].2.1 - 1
  dep : ∀ i (hi : i < A.length) (q : Nat), q < n → 0 ≤ A[i].2.2.getD q 0 ∧ A[i].2.2.getD q 0 ≤ cnt ((q : Int) + 1) (A.take i)
structure Mn (n : Nat) (now : List (List Int)) (A : List Em) : Prop where
  nl : now.length = n
  nv : ∀ r, r < n → (now.getD r []).length = n
  le : ∀ r q, r < n → q < n → 0 ≤ (now.getD r []).getD q 0 ∧ (now.getD r []).getD q 0 ≤ cnt ((q : Int) + 1) A
  own : ∀ r, r < n → (now.getD r []).getD r 0 = cnt ((r : Int) + 1) A
theorem getD_set {α : Type} (l : List α) (i j : Nat) (x d : α) (h : i < l.length) : (l.set i x).getD j d = if i = j then x else l.getD j d := by
  rw [List.getD_eq_getElem?_getD, List.getElem?_set, List.getD_eq_getElem?_getD]
  split
  · first | rfl | (rw [if_pos h]; rfl)
  · rfl
theorem nn_getD {xs : List Int} {q : Nat} (h : 0 ≤ xs.getD q 0) : nn xs q = xs.getD q 0 := by unfold nn; omega
theorem join_getD {xs ys : List Int} {n q : Nat} (h1 : xs.length = n) (h2 : ys.length = n) (hq : q < n) (h3 : 0 ≤ xs.getD q 0) (h4 : 0 ≤ ys.getD q 0) : (joinL xs ys).getD q 0 = max (xs.getD q 0) (ys.getD q 0) := by
  have hl : q < (List.range (max xs.length ys.length)).length := by rw [List.length_range]; omega
  simp only [pickL, List.getD_eq_getElem?_getD, List.getElem?_map]
  rw [List.getElem?_eq_getElem hl, List.getElem_range]
  simp only [Option.map_some, Option.getD_some]
  rw [nn_getD h3, nn_getD h4, List.getD_eq_getElem?_getD, List.getD_eq_getElem?_getD]
theorem Mn.join {n r o : Nat} {now : List (List Int)} {A : List Em} (h : Mn n now A) (hr : r < n) (ho : o < n) : Mn n (now.set r (joinL (now.getD r []) (now.getD o []))) A := by
  have hl : r < now.length := by rw [h.nl]; exact hr
  have hjl : (joinL (now.getD r []) (now.getD o [])).length = n := by simp only [pickL, List.length_map, List.length_range, h.nv r hr, h.nv o ho]; omega
  have hj : ∀ q, q < n → (joinL (now.getD r []) (now.getD o [])).getD q 0 = max ((now.getD r []).getD q 0) ((now.getD o []).getD q 0) := fun q hq => join_getD (h.nv r hr) (h.nv o ho) hq (h.le r q hr hq).1 (h.le o q ho hq).1
  refine ⟨by rw [List.length_set]; exact h.nl, fun k hk => ?_, fun k q hk hq => ?_, fun k hk => ?_⟩
  · rw [getD_set _ _ _ _ _ hl]; split
    · exact hjl
    · exact h.nv k hk
  · rw [getD_set _ _ _ _ _ hl]; split
    · rw [hj q hq]
      have h1 := h.le r q hr hq
      have h2 := h.le o q ho hq
      omega
    · exact h.le k q hk hq
  · rw [getD_set _ _ _ _ _ hl]; split
    · rename_i e; subst e
      rw [hj r hr, h.own r hr]
      have h2 := h.le o r ho hr
      omega
    · exact h.own k hk
theorem adv_getD {V : List Int} {r : Nat} {m : Int} (h : r < V.length) (q : Nat) : (advV V ((r : Int) + 1) m).getD q 0 = if r = q then m else V.getD q 0 := by
  unfold advV
  rw [show ((r : Int) + 1 - 1).toNat = r by omega]
  exact getD_set _ _ _ _ _ h
theorem getD_getElem {l : List Int} {i : Nat} (h : i < l.length) : l.getD i 0 = l[i] := by
  rw [List.getD_eq_getElem?_getD, List.getElem?_eq_getElem h]; rfl
theorem Mn.numOk {n r : Nat} {now : List (List Int)} {A : List Em} (h : Mn n now A) (hr : r < n) (hA : A.length ≤ 1000) : numOk (now.getD r []) := fun x hx => by
  obtain ⟨k, hk, rfl⟩ := List.mem_iff_getElem.1 hx
  have hkn : k < n := by rw [← h.nv r hr]; exact hk
  have h1 := h.le r k hr hkn
  rw [getD_getElem hk] at h1
  have h2 := cnt_le ((k : Int) + 1) A
  omega
theorem Mn.step {n r : Nat} {now : List (List Int)} {A : List Em} (h : Mn n now A) (hm : Md n A) (hr : r < n) (hn : n ≤ 16) (hA : A.length ≤ 1000) :
    withL (now.getD r []) ((r : Int) + 1) ((now.getD r []).getD r 0 + 1) = advV (now.getD r []) ((r : Int) + 1) ((now.getD r []).getD r 0 + 1) ∧
    Mn n (now.set r (advV (now.getD r []) ((r : Int) + 1) ((now.getD r []).getD r 0 + 1))) (A ++ [((r : Int) + 1, (now.getD r []).getD r 0 + 1, now.getD r [])]) ∧ Md n (A ++ [((r : Int) + 1, (now.getD r []).getD r 0 + 1, now.getD r [])]) := by
  have hl : r < now.length := by rw [h.nl]; exact hr
  have hDl := h.nv r hr
  have hDr : r < (now.getD r []).length := by rw [hDl]; exact hr
  have hown := h.own r hr
  have hD0 := cnt_nonneg ((r : Int) + 1) A
  generalize hD : now.getD r [] = D at *
  refine ⟨withL_adv (hD ▸ h.numOk hr hA) (by omega) (by omega) (by omega) (by omega) ?_, ⟨by rw [List.length_set]; exact h.nl, fun k hk => ?_, fun k q hk hq => ?_, fun k hk => ?_⟩, ?_⟩
  · rw [atL, if_pos (by omega), show ((r : Int) + 1 - 1).toNat = r by omega, nn_getD (by omega)]; omega
  · rw [getD_set _ _ _ _ _ hl]; split
    · simp [advV, hDl]
    · exact h.nv k hk
  · rw [getD_set _ _ _ _ _ hl, cnt_snoc]
    dsimp only
    split
    · rw [adv_getD hDr]
      split
      · rename_i e; subst e; rw [hown, if_pos rfl]; omega
      · rename_i e
        rw [if_neg (by omega)]
        have := h.le r q hr hq
        rw [hD] at this; omega
    · have := h.le k q hk hq
      split <;> omega
  · rw [getD_set _ _ _ _ _ hl, cnt_snoc]
    dsimp only
    split
    · rename_i e; subst e
      rw [adv_getD hDr, if_pos rfl, hown, if_pos rfl]
    · rename_i e
      rw [if_neg (by omega), h.own k hk]; omega
  · have key : ∀ i (hi : i < (A ++ [((r : Int) + 1, D.getD r 0 + 1, D)]).length), (∃ hi' : i < A.length, (A ++ [((r : Int) + 1, D.getD r 0 + 1, D)])[i] = A[i] ∧ (A ++ [((r : Int) + 1, D.getD r 0 + 1, D)]).take i = A.take i) ∨ (i = A.length ∧ (A ++ [((r : Int) + 1, D.getD r 0 + 1, D)])[i] = ((r : Int) + 1, D.getD r 0 + 1, D) ∧ (A ++ [((r : Int) + 1, D.getD r 0 + 1, D)]).take i = A) := by
      intro i hi
      by_cases h1 : i < A.length
      · exact .inl ⟨h1, List.getElem_append_left h1, List.take_append_of_le_length (by omega)⟩
      · have h2 : i = A.length := by simp at hi; omega
        subst h2
        exact .inr ⟨rfl, by simp, by simp⟩
    refine ⟨fun i hi => ?_, fun i hi => ?_, fun i hi => ?_, fun i hi => ?_, fun i hi q hq => ?_⟩ <;> rcases key i hi with ⟨h1, h2, h3⟩ | ⟨h1, h2, h3⟩ <;> rw [h2]
    · exact hm.r i h1
    · exact ⟨by dsimp only; omega, by dsimp only; omega⟩
    · rw [h3]; exact hm.m i h1
    · rw [h3]; dsimp only; rw [hown]
    · exact hm.len i h1
    · exact hDl
    · exact hm.own i h1
    · dsimp only; rw [show ((r : Int) + 1 - 1).toNat = r by omega]; omega
    · rw [h3]; exact hm.dep i h1 q hq
    · rw [h3]
      have := h.le r q hr hq
      rw [hD] at this; exact this
section
variable {n : Nat} {A : List Em} (hm : Md n A)
include hm
theorem Md.ex {q : Int} : ∀ {i : Nat}, i ≤ A.length → ∀ {m : Int}, 1 ≤ m → m ≤ cnt q (A.take i) → ∃ j, ∃ hj : j < A.length, j < i ∧ A[j].1 = q ∧ A[j].2.1 = m := by
  intro i
  induction i with
  | zero => intro _ m h1 h2; simp [cnt] at h2; omega
  | succ i ih =>
    intro hi m h1 h2
    rw [take_snoc (by omega), cnt_snoc] at h2
    by_cases hq : A[i].1 = q
    · rw [if_pos hq] at h2
      by_cases hmm : m ≤ cnt q (A.take i)
      · obtain ⟨j, hj, h3, h4⟩ := ih (by omega) h1 hmm
        exact ⟨j, hj, by omega, h4⟩
      · have := hm.m i (by omega)
        rw [hq] at this
        exact ⟨i, by omega, by omega, hq, by omega⟩
    · rw [if_neg hq] at h2
      obtain ⟨j, hj, h3, h4⟩ := ih (by omega) h1 (by omega)
      exact ⟨j, hj, by omega, h4⟩
theorem Md.le {i : Nat} (hi : i < A.length) : 1 ≤ A[i].2.1 ∧ A[i].2.1 ≤ cnt A[i].1 A := by
  have h1 := hm.m i hi
  have h2 := cnt_nonneg A[i].1 (A.take i)
  have h3 : cnt A[i].1 (A.take (i + 1)) = cnt A[i].1 (A.take i) + 1 := by rw [take_snoc hi, cnt_snoc, if_pos rfl]
  have h4 := cnt_take A[i].1 A (i := i + 1) (j := A.length) (by omega)
  rw [List.take_length] at h4
  omega
theorem Md.lt {i j : Nat} (hj : j < A.length) (hij : i < j) (hr : A[i].1 = A[j].1) : A[i].2.1 < A[j].2.1 := by
  have h1 := hm.m i (by omega)
  have h2 := hm.m j hj
  have h3 : cnt A[i].1 (A.take (i + 1)) = cnt A[i].1 (A.take i) + 1 := by rw [take_snoc (by omega), cnt_snoc, if_pos rfl]
  have h4 := cnt_take A[i].1 A (i := i + 1) (j := j) (by omega)
  rw [← hr] at h2
  omega
theorem Md.inj {i j : Nat} (hi : i < A.length) (hj : j < A.length) (h1 : A[i].1 = A[j].1) (h2 : A[i].2.1 = A[j].2.1) : i = j := by
  rcases Nat.lt_trichotomy i j with h | h | h
  · have := hm.lt hj h h1; omega
  · exact h
  · have := hm.lt hi h h1.symm; omega
theorem Md.fits {i : Nat} (hi : i < A.length) (hA : A.length ≤ 1000) {e : Ev} (he : (e.r, e.n, e.deps) = A[i]) {s : Int} (h1 : 1 ≤ s) (h2 : s ≤ n) : fitsB n e s = true := by
  have a1 := hm.r i hi
  have a2 := hm.le hi
  have a3 := hm.len i hi
  have a4 := hm.own i hi
  have a5 := hm.dep i hi
  have a6 := cnt_le A[i].1 A
  rw [← he] at a1 a2 a3 a4 a5 a6
  dsimp only at a1 a2 a3 a4 a5 a6
  refine decide_eq_true ⟨h1, h2, a1.1, a1.2, a2.1, by omega, a3, fun x hx => ?_, a4⟩
  obtain ⟨k, hk, rfl⟩ := List.mem_iff_getElem.1 hx
  have h3 := a5 k (by omega)
  rw [getD_getElem hk] at h3
  have h4 := cnt_le ((k : Int) + 1) (A.take i)
  rw [List.length_take] at h4
  omega
end
theorem sub_len {α : Type} : ∀ {l l' : List α}, l.Nodup → (∀ x ∈ l, x ∈ l') → l.length ≤ l'.length
  | [], _, _, _ => by simp
  | a :: l, l', h, hs => by
    obtain ⟨s, t, rfl⟩ := List.append_of_mem (hs a List.mem_cons_self)
    rw [List.nodup_cons] at h
    have := sub_len (l' := s ++ t) h.2 (fun x hx => by
      have h1 := hs x (List.mem_cons_of_mem _ hx)
      rcases List.mem_append.1 h1 with h1 | h1
      · exact List.mem_append_left _ h1
      · rcases List.mem_cons.1 h1 with rfl | h1
        · exact absurd hx h.1
        · exact List.mem_append_right _ h1)
    simp only [List.length_cons, List.length_append] at this ⊢
    omega
abbrev em (e : Ev) : Em := (e.r, e.n, e.deps)
structure Qp (A : List Em) (V : List Int) (L : List Wn) (out : List Ev) : Prop where
  inA : ∀ w ∈ L, em w.e ∈ A
  outA : ∀ e ∈ out, em e ∈ A
  und : ∀ e ∈ out, hasL V e.r e.n = true
  dl : ∀ e ∈ out, leqL e.deps V = true
  del : ∀ q m, hasL V q m = true → ∃ e ∈ out, e.r = q ∧ e.n = m
  ord : out.Pairwise fun a c => hasL a.deps c.r c.n = false ∧ ¬ (a.r = c.r ∧ a.n = c.n)
  self : ∀ e ∈ out, hasL e.deps e.r e.n = false
  ew : ∀ e ∈ out, EW e
theorem has_iff' {V : List Int} {q m : Int} : hasL V q m = true ↔ 1 ≤ q ∧ 1 ≤ m ∧ m ≤ atL V q := by simp [hasL, and_assoc]
theorem has_mono {u v : List Int} {q m : Int} (h : leqL u v = true) (h2 : hasL u q m = true) : hasL v q m = true := by
  rw [has_iff'] at h2 ⊢
  refine ⟨h2.1, h2.2.1, Int.le_trans h2.2.2 ?_⟩
  have h3 := (leqL_iff _ _).1 h (q - 1).toNat
  unfold atL
  split <;> split
  · exact h3
  · rename_i h4 h5
    rw [nn_out (xs := v) (by omega)] at h3
    exact h3
  · exact nn_nonneg _ _
  · exact Int.le_refl _
theorem leq_trans' {u v w : List Int} (h1 : leqL u v = true) (h2 : leqL v w = true) : leqL u w = true := (leqL_iff _ _).2 fun i => Int.le_trans ((leqL_iff _ _).1 h1 i) ((leqL_iff _ _).1 h2 i)
theorem adv_leq {V : List Int} {r m : Int} (h1 : 1 ≤ r) (h2 : r ≤ V.length) (h3 : atL V r ≤ m) : leqL V (advV V r m) = true := (leqL_iff _ _).2 fun i => by
  rw [nn_adv h1 h2]
  split
  · rename_i e
    rw [atL, if_pos ⟨h1, h2⟩, ← e] at h3
    omega
  · exact Int.le_refl _
section
variable {n : Nat} {A : List Em} {V : List Int} {L : List Wn} {out : List Ev} (hq : QI n V L) (hp : Qp A V L out)
include hq hp in
theorem Qp.deliver {x : Wn} {e : Ev} (hx : x ∈ L) (hl : leqL x.e.deps V = true) (he : em e = em x.e) (hew : EW e) : Qp A (advV V x.e.r x.e.n) (delW (dotW x) L) (out ++ [e]) := by
  obtain ⟨h1, h2, h3, h4, h5⟩ := hq.ripe hx hl
  have hnew := hq.new x hx
  have he1 : e.r = x.e.r := congrArg (·.1) he
  have he2 : e.n = x.e.n := congrArg (·.2.1) he
  have he3 : e.deps = x.e.deps := congrArg (·.2.2) he
  have hle := adv_leq h1 h2 (m := x.e.n) (by omega)
  have hhas : hasL (advV V x.e.r x.e.n) x.e.r x.e.n = true := has_iff'.2 ⟨h1, h3, by rw [atL_adv h1 h2 (by omega), if_pos rfl]; omega⟩
  have hxn : hasL x.e.deps x.e.r x.e.n = false := by
    cases hc : hasL x.e.deps x.e.r x.e.n with
    | false => rfl
    | true => rw [has_mono hl hc] at hnew; cases hnew
  refine ⟨fun w hw => hp.inA w (delW_mem.1 hw).1, fun y hy => ?_, fun y hy => ?_, fun y hy => ?_, fun q m hqm => ?_, ?_, fun y hy => ?_, fun y hy => ?_⟩
  · rcases List.mem_append.1 hy with hy | hy
    · exact hp.outA y hy
    · rw [List.mem_singleton.1 hy, he]; exact hp.inA x hx
  · rcases List.mem_append.1 hy with hy | hy
    · exact has_mono hle (hp.und y hy)
    · rw [List.mem_singleton.1 hy, he1, he2]; exact hhas
  · rcases List.mem_append.1 hy with hy | hy
    · exact leq_trans' (hp.dl y hy) hle
    · rw [List.mem_singleton.1 hy, he3]; exact leq_trans' hl hle
  · obtain ⟨g1, g2, g3⟩ := has_iff'.1 hqm
    rw [atL_adv h1 h2 (by omega)] at g3
    by_cases hc : q = x.e.r ∧ m = x.e.n
    · exact ⟨e, by simp, by rw [he1]; exact hc.1.symm, by rw [he2]; exact hc.2.symm⟩
    · have : m ≤ atL V q := by
        split at g3
        · rename_i h6; subst h6; have : m ≠ x.e.n := fun h => hc ⟨rfl, h⟩; omega
        · exact g3
      obtain ⟨y, hy, hy2⟩ := hp.del q m (has_iff'.2 ⟨g1, g2, this⟩)
      exact ⟨y, List.mem_append_left _ hy, hy2⟩
  · refine List.pairwise_append.2 ⟨hp.ord, by simp, fun a ha c hc => ?_⟩
    rw [List.mem_singleton.1 hc, he1, he2]
    refine ⟨?_, fun hcc => ?_⟩
    · cases hb : hasL a.deps x.e.r x.e.n with
      | false => rfl
      | true => rw [has_mono (hp.dl a ha) hb] at hnew; cases hnew
    · have := hp.und a ha
      rw [hcc.1, hcc.2, hnew] at this; cases this
  · rcases List.mem_append.1 hy with hy | hy
    · exact hp.self y hy
    · rw [List.mem_singleton.1 hy, he1, he2, he3]; exact hxn
  · rcases List.mem_append.1 hy with hy | hy
    · exact hp.ew y hy
    · rw [List.mem_singleton.1 hy]; exact hew
include hq hp in
theorem Qp.small : L.length ≤ A.length := by
  have h1 : (L.map fun w => em w.e).Nodup := by
    have h2 := hq.nd
    have h3 : L.map dotW = (L.map fun w => em w.e).map fun e => (e.1, e.2.1) := by rw [List.map_map]; rfl
    rw [h3] at h2
    exact List.Pairwise.of_map _ (fun a c hac hc => hac (by rw [hc])) h2
  have := sub_len h1 (l' := A) fun y hy => by
    obtain ⟨w, hw, rfl⟩ := List.mem_map.1 hy
    exact hp.inA w hw
  simpa using this
def inQ (V : List Int) (L : List Wn) (d : Int × Int) : Prop := hasL V d.1 d.2 = true ∨ ∃ w ∈ L, dotW w = d
include hq in
theorem inQ_deliver {x : Wn} (hx : x ∈ L) (hl : leqL x.e.deps V = true) {d : Int × Int} (h : inQ V L d) : inQ (advV V x.e.r x.e.n) (delW (dotW x) L) d := by
  obtain ⟨h1, h2, h3, h4, h5⟩ := hq.ripe hx hl
  rcases h with h | ⟨w, hw, hd⟩
  · exact .inl (has_mono (adv_leq h1 h2 (by omega)) h)
  · by_cases hc : d = dotW x
    · subst hc
      exact .inl (has_iff'.2 ⟨h1, h3, by show x.e.n ≤ atL _ x.e.r; rw [atL_adv h1 h2 (by omega), if_pos rfl]; omega⟩)
    · exact .inr ⟨w, delW_mem.2 ⟨hw, by rw [hd]; exact hc⟩, hd⟩
include hq hp in
theorem Qp.add {e : Ev} {s : Int} (hA : A.length ≤ 60) (he : em e ∈ A) (hf : fitsB V.length e s = true) : addE V L e s = 0 ∧ Qp A V (addL V L e s) out ∧ inQ V (addL V L e s) (e.r, e.n) ∧ ∀ d, inQ V L d → inQ V (addL V L e s) d := by
  have hsm := hp.small hq
  have hin : ∀ {L' : List Wn}, (∀ w ∈ L', em w.e ∈ A) → Qp A V L' out := fun h => ⟨h, hp.outA, hp.und, hp.dl, hp.del, hp.ord, hp.self, hp.ew⟩
  refine ⟨?_, ?_⟩
  · rw [addE, if_neg (by rw [hf]; decide)]
    split
    · rfl
    · rw [if_neg (by omega)]
  unfold addL
  split
  · rename_i h1
    have hh : hasL V e.r e.n = true := h1.resolve_left (by rw [hf]; decide)
    exact ⟨hp, .inl hh, fun d h => h⟩
  · split
    · rename_i h1 h2
      obtain ⟨x, hx⟩ := Option.isSome_iff_exists.1 h2
      have hmem : ∀ w ∈ L, setS (e.r, e.n) s w ∈ L.map (setS (e.r, e.n) s) ∧ dotW (setS (e.r, e.n) s w) = dotW w := fun w hw => ⟨List.mem_map.2 ⟨w, hw, rfl⟩, by rw [dotW, dotW, setS_e]⟩
      refine ⟨hin fun w hw => ?_, .inr ⟨_, (hmem x (findW_some hx).1).1, (hmem x (findW_some hx).1).2.trans (findW_some hx).2⟩, fun d hd => ?_⟩
      · obtain ⟨y, hy, rfl⟩ := List.mem_map.1 hw
        rw [setS_e]; exact hp.inA y hy
      · rcases hd with hd | ⟨w, hw, hd⟩
        · exact .inl hd
        · exact .inr ⟨_, (hmem w hw).1, (hmem w hw).2.trans hd⟩
    · rw [if_neg (by omega)]
      have hpm := insL_perm (nW ⟨0, e, s⟩) L
      refine ⟨hin fun w hw => ?_, .inr ⟨nW ⟨0, e, s⟩, hpm.symm.subset List.mem_cons_self, rfl⟩, fun d hd => ?_⟩
      · rcases List.mem_cons.1 (hpm.subset hw) with rfl | h
        · exact he
        · exact hp.inA w h
      · rcases hd with hd | ⟨w, hw, hd⟩
        · exact .inl hd
        · exact .inr ⟨w, hpm.symm.subset (List.mem_cons_of_mem _ hw), hd⟩
include hp in
theorem Qp.all (hm : Md n A) (hr : ripes V L = []) (hin : ∀ j (hj : j < A.length), inQ V L (A[j].1, A[j].2.1)) : ∀ j (hj : j < A.length), hasL V A[j].1 A[j].2.1 = true := by
  intro j
  induction j using Nat.strongRecOn with
  | ind j ih =>
    intro hj
    rcases hin j hj with h | ⟨w, hw, hd⟩
    · exact h
    exfalso
    obtain ⟨i, hi, hie⟩ := List.mem_iff_getElem.1 (hp.inA w hw)
    have e1 : A[i].1 = A[j].1 := by rw [hie]; exact (Prod.mk.inj hd).1
    have e2 : A[i].2.1 = A[j].2.1 := by rw [hie]; exact (Prod.mk.inj hd).2
    obtain rfl := hm.inj hi hj e1 e2
    have hdep : w.e.deps = A[i].2.2 := by rw [hie]
    have hleq : leqL w.e.deps V = true := (leqL_iff _ _).2 fun q => by
      by_cases hqn : q < n
      · have h1 := hm.dep i hi q hqn
        rw [hdep, nn_getD h1.1]
        by_cases h0 : A[i].2.2.getD q 0 ≤ 0
        · have := nn_nonneg V q; omega
        · obtain ⟨k, hk, h2, h3, h4⟩ := hm.ex (by omega) (by omega) h1.2
          have h5 := ih k h2 hk
          rw [h3, h4] at h5
          have h6 := (has_iff'.1 h5).2.2
          unfold atL at h6
          rw [show ((q : Int) + 1 - 1).toNat = q by omega] at h6
          split at h6
          · exact h6
          · omega
      · rw [nn_out (xs := w.e.deps) (by rw [hdep, hm.len i hi]; omega)]; exact nn_nonneg _ _
    have : (w.e.r, w.e.n) ∈ ripes V L := List.mem_map.2 ⟨w, List.mem_filter.2 ⟨hw, hleq⟩, rfl⟩
    rw [hr] at this; simp at this
include hq hp in
theorem Qp.done (hm : Md n A) (hr : ripes V L = []) (hin : ∀ j (hj : j < A.length), inQ V L (A[j].1, A[j].2.1)) : L = [] ∧ out.length = A.length ∧ ∀ q, q < n → V.getD q 0 = cnt ((q : Int) + 1) A := by
  have hall := hp.all hm hr hin
  refine ⟨?_, ?_, fun q hqn => ?_⟩
  · cases hL : L with
    | nil => rfl
    | cons w l =>
      have hw : w ∈ L := by rw [hL]; exact List.mem_cons_self
      obtain ⟨i, hi, hie⟩ := List.mem_iff_getElem.1 (hp.inA w hw)
      have h1 := hall i hi
      rw [hie] at h1
      have h2 := hq.new w hw
      rw [h1] at h2; cases h2
  · have n1 : (out.map fun e => (e.r, e.n)).Nodup := by
      rw [List.nodup_iff_pairwise_ne, List.pairwise_map]
      exact hp.ord.imp fun {a c} h hc => h.2 ⟨congrArg Prod.fst hc, congrArg Prod.snd hc⟩
    have n2 : (A.map fun e => (e.1, e.2.1)).Nodup := by
      rw [List.nodup_iff_pairwise_ne, List.pairwise_iff_getElem]
      intro i j hi hj hij hc
      simp only [List.getElem_map, Prod.mk.injEq] at hc
      have := hm.inj (by simpa using hi) (by simpa using hj) hc.1 hc.2
      omega
    have l1 := sub_len n1 (l' := A.map fun e => (e.1, e.2.1)) fun y hy => by
      obtain ⟨e, he, rfl⟩ := List.mem_map.1 hy
      exact List.mem_map.2 ⟨em e, hp.outA e he, rfl⟩
    have l2 := sub_len n2 (l' := out.map fun e => (e.r, e.n)) fun y hy => by
      obtain ⟨e, he, rfl⟩ := List.mem_map.1 hy
      obtain ⟨i, hi, rfl⟩ := List.mem_iff_getElem.1 he
      obtain ⟨y, hy, h1, h2⟩ := hp.del _ _ (hall i hi)
      exact List.mem_map.2 ⟨y, hy, by rw [h1, h2]⟩
    simp only [List.length_map] at l1 l2
    omega
  · have hlen := hq.len
    have hqV : q < V.length := by omega
    have h0 := hq.num _ (List.getElem_mem hqV)
    rw [← getD_getElem hqV] at h0
    have hat : atL V ((q : Int) + 1) = V.getD q 0 := by rw [atL, if_pos (by omega), show ((q : Int) + 1 - 1).toNat = q by omega, nn_getD h0.1]
    have hc0 := cnt_nonneg ((q : Int) + 1) A
    have hle : V.getD q 0 ≤ cnt ((q : Int) + 1) A := by
      by_cases h1 : V.getD q 0 ≤ 0
      · omega
      · obtain ⟨e, he, h2, h3⟩ := hp.del ((q : Int) + 1) (V.getD q 0) (has_iff'.2 ⟨by omega, by omega, by omega⟩)
        obtain ⟨i, hi, hie⟩ := List.mem_iff_getElem.1 (hp.outA e he)
        have h4 := (hm.le hi).2
        rw [hie] at h4
        dsimp only at h4
        rw [h2, h3] at h4; exact h4
    have hge : cnt ((q : Int) + 1) A ≤ V.getD q 0 := by
      by_cases h1 : cnt ((q : Int) + 1) A ≤ 0
      · omega
      · obtain ⟨j, hj, _, h2, h3⟩ := hm.ex (q := (q : Int) + 1) (Nat.le_refl A.length) (m := cnt ((q : Int) + 1) A) (by omega) (by rw [List.take_length]; exact Int.le_refl _)
        have h4 := hall j hj
        rw [h2, h3] at h4
        have := (has_iff'.1 h4).2.2
        omega
    omega
end
end Go.Proofs.Ytgkhflcpbjlmiaa
/- Queues, part thirty-nine: all that is ripe is delivered. Conditions: not too many. -/
namespace Go.Proofs.Ytgkhflcpbjlmiaa
open Go.Eng Go.RowKit Go.WideMaps Go.Heap

theorem ripes_mem {V : List Int} {L : List Wn} (hnd : (L.map dotW).Nodup) {d : Int × Int} (h : d ∈ ripes V L) : ∃ x, findW d L = some x ∧ leqL x.e.deps V = true := by
  unfold ripes at h
  obtain ⟨w, hw, rfl⟩ := List.mem_map.1 h
  exact ⟨w, findW_of hnd (List.mem_filter.1 hw).1 rfl, (List.mem_filter.1 hw).2⟩
theorem ripes_dot' {n : Nat} {V : List Int} {L : List Wn} (hq : QI n V L) {d : Int × Int} (hd : d ∈ ripes V L) : dotOk d := by
  unfold ripes at hd
  obtain ⟨w, hw, rfl⟩ := List.mem_map.1 hd
  exact hq.dotOk (List.mem_filter.1 hw).1
theorem rows_one' {b : World} {F : List SP} {e : Ev} {i j : Nat} (hi : nth F i = some (rZ e.dv e.deps)) (hj : nth F j = some (rD e.rv e.refs)) : ∀ w, Sat b F w → e.dv.oneCell' = true ∧ e.rv.oneCell' = true := fun w H => by
  obtain ⟨A, c, hv, _⟩ := (ER.of_rows hi hj w H).dv.form
  obtain ⟨A2, c2, hv2, _⟩ := sl_form (ER.of_rows hi hj w H).rv
  rw [hv, hv2]; exact ⟨rfl, rfl⟩
section
variable {b : World} {F : List SP} {gq n : Nat} {V : List Int} {L : List Wn} {A : List Em} {out : List Ev}
set_option maxRecDepth 20000 in
set_option maxHeartbeats 4000000 in
theorem dr_S {nx : List Int} {vn : Value} (hnx : ∀ w, Sat b F w → VL (Value.int .i64) w vn nx) (hq : QI n V L) (hp : Qp A V L out) (hA : A.length ≤ 60) (hol : out.length ≤ 1000) {A0 : Option Addr} {c0 : Nat} :
    SC Try.prog n_entrepotlaw21_drained [.pointer (some ⟨gq, 0, none⟩), vn, .slice A0 out.length c0] b (que gq n V L :: rEn A0 c0 out.length out :: all (evF out) :: F) (fun u F' => ∃ A1 c1 V' L' out', QI n V' L' ∧ Qp A V' L' out' ∧ ripes V' L' = [] ∧ (∀ d, inQ V L d → inQ V' L' d) ∧ out'.length ≤ out.length + 60 ∧
      u = .tuple ⟨[.slice A1 out'.length c1, .bool true]⟩ ∧ F' = que gq n V' L' :: rEn A1 c1 out'.length out' :: all (evF out') :: F) := by
  have hsm := hp.small hq
  refine enterS F_entrepotlaw21_drained rfl rfl rfl ?_
  refine sw_fact (fun w H => (up hnx (ent_keep 3 [] rfl rfl) w H).form) ?_
  rintro ⟨An, cn, rfl, _, _, _, kn⟩
  (refine sw_seq ?_; refine sw_region ?_; (iterate 2 refine so_1 rfl ?_); refine so_nil ?_; refine sn_then ?_; (iterate 2 refine sw_seq ?_); refine sw_region ?_; refine so_1 rfl ?_; refine so_nil ?_; refine sn_then ?_; refine sw_block ?_)
  refine sw_loop (S := Nat × List Int × List Wn × List Ev × Nat × Option Addr × Nat) (fun s => [(0, .pointer (some ⟨gq, 0, none⟩)), (1, .slice An nx.length cn), (2, .slice s.2.2.2.2.2.1 s.2.2.2.2.1 s.2.2.2.2.2.2), (8, .int .i64 (s.1 : Int))])
    (fun s => que gq n s.2.1 s.2.2.1 :: rEn s.2.2.2.2.2.1 s.2.2.2.2.2.2 s.2.2.2.2.1 s.2.2.2.1 :: all (evF s.2.2.2.1) :: F)
    (fun s => s.1 + s.2.2.1.length ≤ 60 ∧ QI n s.2.1 s.2.2.1 ∧ Qp A s.2.1 s.2.2.1 s.2.2.2.1 ∧ s.2.2.2.1.length = s.2.2.2.2.1 ∧ (∀ d, inQ V L d → inQ s.2.1 s.2.2.1 d) ∧ s.2.2.2.2.1 ≤ out.length + s.1) (fun s => 60 - s.1) (0, V, L, out, out.length, A0, c0) ⟨rfl, rfl, rfl, rfl, trivial⟩ (Ent.refl _) ⟨by dsimp only; omega, hq, hp, rfl, fun d h => h, Nat.le_refl _⟩ ?_
  clear hq hp hsm
  rintro ⟨i, V1, L1, out1, o, A1, c1⟩ ⟨i1, hq, hp, ho, hin, hol1⟩
  dsimp only at i1 hq hp ho hin hol1 ⊢
  have hVn := hq.len
  have h16 := hq.n2
  ((iterate 2 refine sw_seq ?_); refine sw_region ?_; (iterate 2 refine so_1 rfl ?_); refine so_nil ?_; refine sn_then ?_)
  refine sw_if rfl (fun _ => ?_) (fun h => by omega)
  (refine sw_skip ?_; refine sn_then ?_; refine sw_seq ?_; refine sw_block ?_; refine sw_seq ?_; refine sw_region ?_; refine so_1 rfl ?_)
  refine so_call rfl rfl rfl (Ripe_Q (gq := gq) (n := n) (V := V1) (L := L1)) ?_
  rintro _ _ ⟨A9, c9, rfl, rfl⟩
  refine so_fact (fun w H => (H.oat (k := 0) rfl).form) ?_
  rintro ⟨A9', c9', hv9, k91, _, k9⟩
  cases hv9
  have hrl := ripes_le V1 L1
  (refine so_1 rfl ?_; refine so_nil ?_; refine sn_then ?_; (iterate 2 refine sw_seq ?_); refine sw_region ?_; (iterate 3 refine so_1 rfl ?_); refine so_nil ?_; refine sn_then ?_)
  by_cases hr : ripes V1 L1 = []
  · have h0 : (ripes V1 L1).length = 0 := by rw [hr]; rfl
    refine sw_know 22 (.bool true) rfl (congrArg Value.bool (decide_eq_true (by omega))) ?_
    (refine sw_cond_t rfl ?_; refine sw_seq ?_; refine sw_region ?_; (iterate 3 refine so_1 rfl ?_); refine so_nil ?_; refine sn_then ?_; refine sw_ret ?_; refine sn_then_ret ?_; refine sn_block_ret ?_; refine sn_then_ret ?_; refine sn_loop_ret ?_; refine sn_block_ret ?_; refine sn_then_ret ?_)
    subst ho
    refine sn_ret rfl (.tmp rfl (.tmp rfl .nil)) (ent_keep 2 [1] rfl rfl) ?_
    exact ⟨A1, c1, V1, L1, out1, hq, hp, hr, hin, by omega, rfl, rfl⟩
  have hpos : 0 < (ripes V1 L1).length := List.length_pos_iff.2 hr
  have hL1 : 0 < L1.length := by omega
  refine sw_know 22 (.bool false) rfl (congrArg Value.bool (decide_eq_false (by omega))) ?_
  refine sw_cond_f rfl (sw_skip (sn_then (sw_seq (sw_region ?_))))
  refine so_1 rfl ?_
  refine so_nil (sn_then ?_)
  refine sw_mid (S := Nat) (fun k => [(0, .pointer (some ⟨gq, 0, none⟩)), (1, .slice An nx.length cn), (2, .slice A1 o c1), (8, .int .i64 (i : Int)), (9, .slice A9 (ripes V1 L1).length c9), (10, .int .i64 (k : Int))])
    (fun _ => rO A9 c9 (ripes V1 L1).length (ripes V1 L1) :: que gq n V1 L1 :: rEn A1 c1 o out1 :: all (evF out1) :: F) (fun k => k < (ripes V1 L1).length) ?_ ?_
  · (refine sw_seq ?_; refine sw_region ?_; (iterate 3 refine so_1 rfl ?_); refine so_nil ?_; refine sn_then ?_)
    by_cases h0 : nx.length = 0
    · refine sw_know 26 (.bool false) rfl (congrArg Value.bool (decide_eq_false (by omega))) ?_
      (refine sw_cond_f rfl ?_; refine sw_skip ?_)
      exact sn_mid 0 ⟨rfl, rfl, rfl, rfl, rfl, rfl, trivial⟩ (Ent.refl _) hpos
    · refine sw_know 26 (.bool true) rfl (congrArg Value.bool (decide_eq_true (by omega))) ?_
      have hlt : i % nx.length < nx.length := Nat.mod_lt _ (by omega)
      obtain ⟨bk, off, rfl⟩ := kn (by omega)
      (refine sw_cond_t rfl ?_; refine sw_region ?_; (iterate 4 refine so_1 rfl ?_); refine so_2 rfl (by omega) ?_)
      refine so_know 31 (.int .i64 ((i % nx.length : Nat) : Int)) rfl rfl ?_
      generalize i % nx.length = j at *
      (refine so_2 rfl (by omega) ?_)
      refine so_rd rfl (fun w H => ex_load rfl rfl rfl (by rw [mulz_eq, idx_lt, Nat.mul_one]; exact VL.at (up hnx (ent_keep 4 [] rfl rfl) w H) j hlt)) rfl ?_
      ((iterate 2 refine so_1 rfl ?_))
      refine so_callE rfl rfl rfl (Pick_S (by unfold I64; omega)) ?_
      have hn0 : ¬ (((ripes V1 L1).length : Nat) : Int) ≤ 0 := by omega
      rw [if_neg hn0]
      obtain ⟨k, hk⟩ : ∃ k : Nat, nx[j] % (((ripes V1 L1).length : Nat) : Int) = (k : Int) := ⟨(nx[j] % (((ripes V1 L1).length : Nat) : Int)).toNat, by have := Int.emod_nonneg nx[j] (b := (((ripes V1 L1).length : Nat) : Int)) (by omega); omega⟩
      have hk2 := Int.emod_lt_of_pos nx[j] (b := (((ripes V1 L1).length : Nat) : Int)) (by omega)
      rw [hk] at hk2 ⊢
      (refine so_1 rfl ?_; refine so_nil ?_)
      exact sn_mid k ⟨rfl, rfl, rfl, rfl, rfl, rfl, trivial⟩ (Ent.refl _) (by omega)
  intro k hk
  (refine sw_seq ?_; refine sw_region ?_; refine so_1 rfl ?_)
  refine so_call rfl rfl rfl ((Vector_Q (gq := gq) (n := n) (V := V1) (L := L1)).ent (ent_keep 2 [1, 0] rfl rfl)) ?_
  rintro v11 _ rfl
  obtain ⟨g9, o9, rfl⟩ := k9 (by omega)
  have hdm := List.getElem_mem hk
  have hc : ∀ w, Sat b (rZ v11 V1 :: que gq n V1 L1 :: rO (some ⟨g9, o9, none⟩) c9 (ripes V1 L1).length (ripes V1 L1) :: rEn A1 c1 o out1 :: all (evF out1) :: F) w → ∀ j, j < 2 → w.cell? ⟨g9, o9 + k * 2 + j, none⟩ = [Value.int .i64 (ripes V1 L1)[k].1, .int .i64 (ripes V1 L1)[k].2][j]? := fun w H j hj =>
    fl_cell (f := fun d : Int × Int => [.int .i64 d.1, .int .i64 d.2]) (by rw [← dotsC_fl]; exact (H.oat (k := 2) rfl).sl) (fun _ _ => rfl) hk hj
  generalize hdd : (ripes V1 L1)[k] = d at *
  obtain ⟨x, hfx, hlx⟩ := ripes_mem hq.nd hdm
  have hdok := ripes_dot' hq hdm
  (refine so_1 rfl ?_; refine so_nil ?_; refine sn_then ?_; refine sw_seq ?_; refine sw_region ?_; (iterate 3 refine so_1 rfl ?_); refine so_2 rfl (by omega) ?_)
  refine so_rd rfl (fun w H => ex_loadN (cs := [.int .i64 d.1, .int .i64 d.2]) rfl rfl rfl rfl (fun j hj => by rw [mulz_eq, idx_lt]; exact hc w H j hj)) rfl ?_
  refine so_call rfl rfl rfl ((Deliver_Q (gq := gq) (n := n) (V := V1) (L := L1) hdok).ent (ent_keep 5 [1, 0, 2, 3, 4] rfl rfl)) ?_
  rintro _ _ (⟨h1, _⟩ | ⟨x', w, h1, h2, h3, rfl, rfl⟩)
  · exact absurd (delE_ok hfx hlx) h1
  obtain rfl : x = x' := Option.some.inj (hfx.symm.trans h1)
  have hxL := (findW_some hfx).1
  have hxd := (findW_some hfx).2
  have hwe := EW.of_nW h3 (hq.ew x hxL)
  have hw32 := hwe.l32
  have hem : em w.e = em x.e := by rw [← h3]; rfl
  have hwr : w.e.r = x.e.r := congrArg (·.1) hem
  have hwn : w.e.n = x.e.n := congrArg (·.2.1) hem
  have hwd : w.e.deps = x.e.deps := congrArg (·.2.2) hem
  obtain ⟨r1, r2, r3, r4, r5⟩ := hq.ripe hxL hlx
  have hd1 : d.1 = x.e.r ∧ d.2 = x.e.n := ⟨(congrArg Prod.fst hxd).symm, (congrArg Prod.snd hxd).symm⟩
  have hnew := hq.new x hxL
  have hwl : withL V1 w.e.r w.e.n = advV V1 d.1 d.2 := by
    rw [hwr, hwn, hd1.1, hd1.2]; exact withL_adv hq.num (by omega) r1 r2 r3 (by omega)
  have hqd := hq.del hxL hlx
  have hpd := hp.deliver hq hxL hlx hem hwe
  have hind := fun {d} h => inQ_deliver hq hxL hlx (d := d) h
  rw [hxd] at hqd hpd hind
  rw [← hd1.1, ← hd1.2] at hqd hpd hind
  have hlen : (delW d L1).length < L1.length := by
    have h5 : (delW d L1).length ≤ L1.length := List.length_filter_le _ _
    rcases Nat.lt_or_ge (delW d L1).length L1.length with h6 | h6
    · exact h6
    · exfalso
      have h7 : delW d L1 = L1 := List.filter_sublist.eq_of_length (by unfold delW at h5 h6; omega)
      have h8 : x ∈ delW d L1 := by rw [h7]; exact hxL
      exact (delW_mem.1 h8).2 hxd
  refine so_fact (rows_one' (e := w.e) (i := 0) (j := 1) rfl rfl) fun hone => ?_
  ((iterate 3 refine so_1 rfl ?_))
  refine so_new rfl rfl rfl rfl rfl fun g12 => ?_
  refine so_stW 0 rfl rfl rfl rfl rfl rfl rfl (evC_len hw32) (evC_one hone.1 hone.2) (by rw [evC_len hw32]; rfl) ?_
  (refine so_1 rfl ?_; refine so_nil ?_; refine sn_then ?_; (iterate 2 refine sw_seq ?_))
  refine sw_draw flo _ (by decide +kernel) (Ent.refl _) ?_
  ((iterate 4 refine sd_1 rfl (.inl rfl) ?_); refine sd_l 0 rfl rfl rfl rfl ?_; refine sd_1 rfl (.inl rfl) ?_)
  refine sd_callE rfl rfl rfl rfl (SC.ofExt fun W H => Leq_spec (vlZ (k := 1) rfl W H) (vlZ (k := 4) rfl W H)) (Ent.refl _) ?_
  rw [hwd, hlx]
  ((iterate 5 refine sd_1 rfl (.inl rfl) ?_); refine sd_l 0 rfl rfl rfl rfl ?_)
  refine sd_callE rfl rfl rfl rfl (SC.ofExt fun W H => Has_spec_vector_Has (vlZ (k := 4) rfl W H)) (Ent.refl _) ?_
  rw [hwr, hwn, hnew]
  ((iterate 3 refine sd_1 rfl (.inl rfl) ?_))
  refine sd_call rfl rfl rfl rfl ((Vector_Q (gq := gq) (n := n) (V := advV V1 d.1 d.2) (L := delW d L1)).ent (ent_keep 8 [3, 0, 1, 2, 4, 5, 6, 7] rfl rfl)) ?_
  rintro v65 _ rfl
  refine ⟨ent_keep 9 [2, 3, 4, 1, 5, 6, 7, 8] rfl rfl, ?_⟩
  ((iterate 2 refine sd_1 rfl (.inl rfl) ?_); refine sd_l 0 rfl rfl rfl rfl ?_)
  refine sd_call rfl rfl rfl rfl (SC.ofMade fun W H => With_spec_vector (vlZ (k := 5) rfl W H) (by omega)) ?_
  rintro v69 _ rfl
  refine ⟨ent_keep 10 [3, 4, 5, 2, 6, 7, 8, 9] rfl rfl, ?_⟩
  rw [← hwr, ← hwn, hwl]
  refine sd_callE rfl rfl rfl rfl (SameInts_S (xs := advV V1 d.1 d.2) (ys := advV V1 d.1 d.2) (vlZ (k := 1) rfl) (vlZ (k := 0) rfl)) (ent_keep 10 [3, 4, 5, 2, 6, 7, 8, 9] rfl rfl) ?_
  refine sd_know 70 (.bool true) rfl (congrArg Value.bool (decide_eq_true rfl)) ?_
  ((iterate 2 refine sd_1 rfl (.inl rfl) ?_))
  refine sd_nil ?_
  (refine sn_then ?_; refine sw_cond_f rfl ?_; refine sw_skip ?_; refine sn_then ?_; refine sw_region ?_; refine so_1 rfl ?_)
  refine so_ldA 3 rfl rfl rfl rfl rfl rfl (segO_all (by rw [evC_len hw32]; rfl)) rfl ?_
  refine so_lit1 rfl rfl rfl rfl rfl rfl rfl (evC_len hw32) (by decide) fun gl => ?_
  refine so_append 9 rfl rfl rfl rfl rfl rfl rfl rfl rfl (m := 1) (news := evC w.e) (fun w H => (H.blk (k := 0) rfl).sl (by rw [evC_len hw32]) (by decide)) (evC_one hone.1 hone.2) (by omega) (fun _ => rfl) fun v77 => ?_
  refine so_fact (fun w H => (H.oat (k := 9) rfl).form) ?_
  rintro ⟨A7, c7, rfl, _, _, _⟩
  (refine so_1 rfl ?_; refine so_nil ?_; refine sn_block ?_; refine sn_then ?_; refine sw_region ?_; refine so_1 rfl ?_; refine so_2 rfl (by (unfold I64; omega)) ?_; refine so_1 rfl ?_; refine so_nil ?_)
  have e1 : rEn A7 c7 (o + 1) (out1 ++ [w.e]) = row t_api_Event 39 (.slice A7 (o + 1) c7) (o + 1) (evsC out1 ++ evC w.e) := by
    simp only [rEn, flC_app, flC, List.append_nil]
  refine sn_ent (G := evP w.e ++ (all (evF out1) :: que gq n (advV V1 d.1 d.2) (delW d L1) :: rEn A7 c7 (o + 1) (out1 ++ [w.e]) :: F)) (by rw [e1, ← hwd]; exact ent_keep 11 [5, 6, 10, 3, 9] rfl rfl) ?_
  refine sn_ent (ent_in (A := evF (out1 ++ [w.e])) evF_snoc) ?_
  refine sn_round (i + 1, advV V1 d.1 d.2, delW d L1, out1 ++ [w.e], o + 1, A7, c7) ⟨rfl, rfl, rfl, rfl, trivial⟩ (ent_keep 3 [1, 2, 0] rfl rfl) ⟨by dsimp only; omega, hqd, hpd, by simp [ho], fun q hq' => hind (hin q hq'), by dsimp only; omega⟩ (by dsimp only; omega)
end
end Go.Proofs.Ytgkhflcpbjlmiaa
/- Queues, part forty: events are made. Conditions: not too many. -/
namespace Go.Proofs.Ytgkhflcpbjlmiaa
open Go.Eng Go.RowKit Go.WideMaps Go.Heap

abbrev Nw := Value × List Int
def nowF : List Nw → List SP
  | [] => []
  | x :: l => rZ x.1 x.2 :: nowF l
abbrev nwC : List Nw → List Value := flC fun x => [x.1]
theorem nowF_app (a c : List Nw) : nowF (a ++ c) = nowF a ++ nowF c := by
  induction a with
  | nil => rfl
  | cons x a ih => simp only [List.cons_append, nowF, ih]
theorem nowF_at {l1 l2 : List Nw} {x : Nw} : (nowF (l1 ++ x :: l2)).Perm ([rZ x.1 x.2] ++ nowF (l1 ++ l2)) := by
  rw [nowF_app, nowF, nowF_app]
  exact List.perm_middle
theorem split_at {α : Type} {S : List α} {r : Nat} (hr : r < S.length) : S = S.take r ++ S[r] :: S.drop (r + 1) := by rw [← List.drop_eq_getElem_cons hr, List.take_append_drop]
theorem set_split {α : Type} {S : List α} {r : Nat} (hr : r < S.length) (x : α) : S.set r x = S.take r ++ x :: S.drop (r + 1) := by
  rw [List.set_eq_take_append_cons_drop, if_pos hr]
section
variable {b : World} {F : List SP} {S : List Nw}
theorem nowF_vl {k : Nat} (hk : nth F k = some (all (nowF S))) {r : Nat} (hr : r < S.length) : ∀ w, Sat b F w → VL (Value.int .i64) w S[r].1 S[r].2 := fun w hS => by
  obtain ⟨h1, hl, hA⟩ := hS.mem.get hk
  have hp : (nowF S).Perm ([rZ S[r].1 S[r].2] ++ nowF (S.take r ++ S.drop (r + 1))) := by
    conv => lhs; rw [split_at hr]
    exact nowF_at
  have h2 : Sat b ([rZ S[r].1 S[r].2] ++ nowF (S.take r ++ S.drop (r + 1))) w := ⟨hS.os, hS.tape, hS.output, (ent_perm hp _ hA).mono hl⟩
  exact vlZ (k := 0) rfl w h2
theorem ent_now {r : Nat} (hr : r < S.length) (v : Value) (l : List Int) : Ent (rZ v l :: all (nowF S) :: F) (all (nowF (S.set r (v, l))) :: F) := by
  have h1 : (nowF S).Perm ([rZ S[r].1 S[r].2] ++ nowF (S.take r ++ S.drop (r + 1))) := by
    conv => lhs; rw [split_at hr]
    exact nowF_at
  have h2 : (nowF (S.set r (v, l))).Perm ([rZ v l] ++ nowF (S.take r ++ S.drop (r + 1))) := by
    rw [set_split hr]; exact nowF_at
  exact (((ent_keep 2 [1, 0] rfl rfl : Ent _ (all (nowF S) :: rZ v l :: F)).trans (ent_out h1)).trans (ent_keep 3 [2, 1] rfl rfl)).trans (ent_in h2)
theorem ent_nils : ∀ (n : Nat), Ent F (all (nowF (List.replicate n (nS, []))) :: F)
  | 0 => ent_close (G := [])
  | n + 1 => ((ent_nils n).trans (ent_row_nil t_int 1 rfl)).trans (ent_in (B := [rZ nS []]) (C := nowF (List.replicate n (nS, []))) (.refl _))
theorem nwC_set {r : Nat} (hr : r < S.length) (v : Value) (l : List Int) : spl (nwC S) r [v] = nwC (S.set r (v, l)) := by
  have := flC_set (f := fun x : Nw => [x.1]) (l := S) (sz := 1) (fun _ _ => rfl) (i := r) (x := (v, l)) rfl hr
  rw [Nat.mul_one] at this
  exact this
theorem nwC_at {r : Nat} (hr : r < S.length) : (nwC S)[r]? = some S[r].1 := by
  have := flC_at (f := fun x : Nw => [x.1]) (l := S) (sz := 1) (fun _ _ => rfl) (i := r) hr (j := 0) (by decide)
  rw [Nat.mul_one, Nat.add_zero] at this
  exact this
theorem nwC_len : (nwC S).length = S.length := by rw [flC_len (sz := 1) fun _ _ => rfl, Nat.mul_one]
theorem nwC_nils (n : Nat) : nwC (List.replicate n (nS, [])) = List.replicate n nS := by
  induction n with
  | zero => rfl
  | succ n ih =>
    simp only [List.replicate_succ]
    show nS :: nwC (List.replicate n (nS, [])) = _
    rw [ih]
theorem nw_get {n : Nat} (hS : S.length = n) {r : Nat} (hr : r < n) : (S.map (·.2)).getD r [] = (S[r]'(by omega)).2 := by
  rw [List.getD_eq_getElem?_getD, List.getElem?_map, List.getElem?_eq_getElem (by omega)]; rfl
/-- The row of vectors. -/
abbrev rNw (A : Option Addr) (c n : Nat) (S : List Nw) : SP := row t_sl_int 1 (.slice A n c) n (nwC S)
set_option maxRecDepth 20000 in
set_option maxHeartbeats 4000000 in
theorem made_S {n : Nat} {nums : List Int} {vn : Value} (hn1 : 1 ≤ n) (hn2 : n ≤ 16) (hnum : ∀ w, Sat b F w → VL (Value.int .i64) w vn nums) (hl : nums.length ≤ 100) :
    SC Try.prog n_entrepotlaw21_made [.int .i64 n, vn] b F (fun u F' => ∃ A c out, Md n (out.map em) ∧ out.length = nums.length ∧ (∀ e ∈ out, e = evA e.r e.n e.dv e.deps) ∧ u = .slice A out.length c ∧ F' = rEn A c out.length out :: all (evF out) :: F) := by
  refine enterS F_entrepotlaw21_made rfl rfl rfl ?_
  refine sw_fact (fun w H => (hnum w H).form) ?_
  rintro ⟨An, cn, rfl, _, _, _, kn⟩
  (refine sw_seq ?_; refine sw_region ?_; refine so_1 rfl ?_; refine so_nil ?_; refine sn_then ?_; refine sw_seq ?_; refine sw_region ?_; refine so_1 rfl ?_)
  refine so_make (sz := 1) (n := n) (cs := List.replicate n nS) rfl rfl rfl rfl rfl rfl rfl rfl rfl (by omega) (by exact made_one _ _) fun g5 => ?_
  refine so_ent (G := rNw (some ⟨g5, 0, none⟩) n n (List.replicate n (nS, [])) :: all (nowF (List.replicate n (nS, []))) :: F) ((by rw [rNw, nwC_nils]; exact (ent_keep 1 [0] rfl rfl : Ent _ (_ :: F)).trans (ent_cons (ent_nils n)))) ?_
  refine so_fact (fun w H => (H.oat (k := 0) rfl).form) ?_
  rintro ⟨A5', c5', hv5, _, _, _⟩
  cases hv5
  (refine so_1 rfl ?_; refine so_nil ?_; refine sn_then ?_; (iterate 2 refine sw_seq ?_); refine sw_region ?_; refine so_1 rfl ?_; refine so_nil ?_; refine sn_then ?_; refine sw_block ?_)
  refine sw_loop (S := Nat × List Nw) (fun s => [(0, .int .i64 n), (1, .slice An nums.length cn), (5, .slice (some ⟨g5, 0, none⟩) n n), (6, .int .i64 (s.1 : Int))]) (fun s => rNw (some ⟨g5, 0, none⟩) n n s.2 :: all (nowF s.2) :: F) (fun s => s.1 ≤ n ∧ s.2.length = n ∧ ∀ k (hk : k < s.2.length), k < s.1 → s.2[k].2 = List.replicate n 0) (fun s => n - s.1) (0, List.replicate n (nS, [])) ⟨rfl, rfl, rfl, rfl, trivial⟩ (Ent.refl _) ⟨Nat.zero_le _, List.length_replicate, fun k _ h => absurd h (Nat.not_lt_zero k)⟩ ?_
  rintro ⟨i, S⟩ ⟨i1, i2, i3⟩
  dsimp only at i1 i2 i3 ⊢
  ((iterate 2 refine sw_seq ?_); refine sw_region ?_; (iterate 3 refine so_1 rfl ?_); refine so_nil ?_; refine sn_then ?_)
  refine sw_if rfl (fun h1 => ?_) (fun h1 => ?_)
  · have h1' : i < S.length := by omega
    (refine sw_skip ?_; refine sn_then ?_; refine sw_seq ?_; refine sw_block ?_; refine sw_region ?_; (iterate 3 refine so_1 rfl ?_))
    refine so_make (sz := 1) (n := n) (cs := ints (List.replicate n 0)) rfl rfl rfl rfl rfl rfl rfl rfl rfl (by omega) (by rw [ints, List.map_replicate]; exact made_one _ _) fun g21 => ?_
    refine so_ent (G := rZ (.slice (some ⟨g21, 0, none⟩) n n) (List.replicate n 0) :: rNw (some ⟨g5, 0, none⟩) n n S :: all (nowF S) :: F) (by simp only [rZ, List.length_replicate]; exact Ent.refl _) ?_
    (refine so_2 rfl (by omega) ?_)
    refine so_strow 1 i rfl rfl rfl rfl rfl rfl rfl rfl (nwC_set h1' (.slice (some ⟨g21, 0, none⟩) n n) (List.replicate n 0)) rfl (by rw [mulz_eq, idx_lt, Nat.mul_one]) (by rw [nwC_len]; simp; omega) (by simp [Value.oneCell']) ?_
    refine so_ent (((ent_keep 3 [0, 2, 1] rfl rfl).trans (ent_now h1' _ _)).trans (ent_keep 2 [1, 0] rfl rfl)) ?_
    (refine so_nil ?_; refine sn_block ?_; refine sn_then ?_; refine sw_region ?_; refine so_1 rfl ?_; refine so_2 rfl (by (unfold I64; omega)) ?_; refine so_1 rfl ?_; refine so_nil ?_)
    refine sn_round (i + 1, S.set i (.slice (some ⟨g21, 0, none⟩) n n, List.replicate n 0)) ⟨rfl, rfl, rfl, rfl, trivial⟩ (Ent.refl _) ⟨by dsimp only; omega, by dsimp only; rw [List.length_set]; exact i2, fun k hk hlt => ?_⟩ (by dsimp only; omega)
    dsimp only at hk hlt ⊢
    rw [List.getElem_set]
    by_cases e : i = k
    · rw [if_pos e]
    · rw [if_neg e]; exact i3 k (by simpa using hk) (by omega)
  have hS0 : Mn n (S.map (·.2)) [] := by
    have hg : ∀ r, r < n → (S.map (·.2)).getD r [] = List.replicate n 0 := fun r hr => by
      rw [List.getD_eq_getElem?_getD, List.getElem?_map, List.getElem?_eq_getElem (by omega)]
      exact i3 r (by omega) (by omega)
    refine ⟨by rw [List.length_map]; exact i2, fun r hr => by rw [hg r hr, List.length_replicate], fun r q hr hq => ?_, fun r hr => ?_⟩
    · rw [hg r hr, List.getD_eq_getElem?_getD, List.getElem?_replicate, if_pos hq]
      exact ⟨Int.le_refl _, cnt_nonneg _ _⟩
    · rw [hg r hr, List.getD_eq_getElem?_getD, List.getElem?_replicate, if_pos hr]; rfl
  have hM0 : Md n [] := ⟨fun i hi => by simp at hi, fun i hi => by simp at hi, fun i hi => by simp at hi, fun i hi => by simp at hi, fun i hi => by simp at hi⟩
  clear h1
  (refine sw_exit ?_; refine sn_then_exit ?_; refine sn_loop_exit ?_; refine sn_block_exit ?_; refine sn_then ?_; refine sw_seq ?_; refine sw_region ?_; refine so_1 rfl ?_; refine so_nil ?_; refine sn_then ?_; (iterate 2 refine sw_seq ?_); refine sw_region ?_; refine so_1 rfl ?_; refine so_nil ?_; refine sn_then ?_; refine sw_block ?_)
  refine sw_loop (S := Nat × List Nw × List Ev × Nat × Option Addr × Nat) (fun s => [(0, .int .i64 n), (1, .slice An nums.length cn), (5, .slice (some ⟨g5, 0, none⟩) n n), (7, .slice s.2.2.2.2.1 s.2.2.2.1 s.2.2.2.2.2), (8, .int .i64 (s.1 : Int))])
    (fun s => rEn s.2.2.2.2.1 s.2.2.2.2.2 s.2.2.2.1 s.2.2.1 :: all (evF s.2.2.1) :: rNw (some ⟨g5, 0, none⟩) n n s.2.1 :: all (nowF s.2.1) :: F)
    (fun s => s.1 ≤ nums.length ∧ s.2.1.length = n ∧ Mn n (s.2.1.map (·.2)) (s.2.2.1.map em) ∧ Md n (s.2.2.1.map em) ∧ s.2.2.1.length = s.1 ∧ s.2.2.2.1 = s.1 ∧ ∀ e ∈ s.2.2.1, e = evA e.r e.n e.dv e.deps) (fun s => nums.length - s.1) (0, S, [], 0, none, 0) ⟨rfl, rfl, rfl, rfl, rfl, trivial⟩ ((ent_close (G := [])).trans (ent_row_nil t_api_Event 39 rfl)) ⟨Nat.zero_le _, i2, hS0, hM0, rfl, rfl, fun e he => by simp at he⟩ ?_
  clear i3 hS0 hM0 i1 i2
  clear i S
  rintro ⟨i, S, out, o, A, c⟩ ⟨i1, i2, hMn, hMd, i3, i4, i5⟩
  dsimp only at i1 i2 hMn hMd i3 i4 i5 ⊢
  subst i4
  ((iterate 2 refine sw_seq ?_); refine sw_region ?_; (iterate 4 refine so_1 rfl ?_); refine so_nil ?_; refine sn_then ?_)
  refine sw_if rfl (fun h1 => ?_) (fun h1 => ?_)
  rotate_left
  · (refine sw_exit ?_; refine sn_then_exit ?_; refine sn_loop_exit ?_; refine sn_block_exit ?_; refine sn_then ?_; refine sw_seq ?_; refine sw_region ?_; (iterate 2 refine so_1 rfl ?_); refine so_nil ?_; refine sn_then ?_; refine sw_ret ?_)
    obtain rfl : o = nums.length := by omega
    rw [← i3]
    refine sn_ret rfl (.tmp rfl .nil) (ent_keep 4 [0, 1] rfl rfl) ?_
    exact ⟨A, c, out, hMd, by first | rfl | exact i3, i5, rfl, rfl⟩
  have h1' : o < nums.length := by omega
  obtain ⟨bk, off, rfl⟩ := kn (by omega)
  have hx : ∀ w, Sat b F w → w.cell? ⟨bk, off + o, none⟩ = some (.int .i64 nums[o]) := fun w H => VL.at (hnum w H) o h1'
  generalize nums[o] = x at hx
  (refine sw_skip ?_; refine sn_then ?_; refine sw_seq ?_; refine sw_block ?_; refine sw_seq ?_; refine sw_region ?_; (iterate 2 refine so_1 rfl ?_); refine so_2 rfl (by omega) ?_)
  refine so_rd rfl (fun w H => ex_load rfl rfl rfl (by rw [mulz_eq, idx_lt, Nat.mul_one]; exact up hx (ent_keep 4 [] rfl rfl) w H)) rfl ?_
  (refine so_1 rfl ?_)
  refine so_callE rfl rfl rfl (Pick_S (by unfold I64; omega)) ?_
  obtain ⟨r, hr⟩ : ∃ r : Nat, (if (n : Int) ≤ 0 then 0 else x % (n : Int)) = (r : Int) := ⟨(x % (n : Int)).toNat, by
    rw [if_neg (by omega)]; have := Int.emod_nonneg x (b := (n : Int)) (by omega); omega⟩
  have hrn : r < n := by
    rw [if_neg (by omega)] at hr
    have := Int.emod_lt_of_pos x (b := (n : Int)) (by omega); omega
  rw [hr]
  (refine so_1 rfl ?_; refine so_nil ?_; refine sn_then ?_; refine sw_seq ?_; refine sw_region ?_; (iterate 2 refine so_1 rfl ?_); refine so_2 rfl (by omega) ?_)
  refine so_rd rfl (fun w H => ex_load rfl rfl rfl (by rw [mulz_eq, idx_lt, Nat.mul_one]; exact up hx (ent_keep 4 [] rfl rfl) w H)) rfl ?_
  (refine so_1 rfl ?_; refine so_2 rfl (by omega) ?_; refine so_1 rfl ?_; refine so_2 rfl (by (unfold I64; omega)) ?_)
  refine so_callE rfl rfl rfl (Pick_S (by unfold I64; omega)) ?_
  obtain ⟨q, hq⟩ : ∃ q : Nat, (if (n : Int) + 1 ≤ 0 then 0 else IntKind.i64.wrap (x.tdiv (n : Int)) % ((n : Int) + 1)) = (q : Int) := ⟨(IntKind.i64.wrap (x.tdiv (n : Int)) % ((n : Int) + 1)).toNat, by
    rw [if_neg (by omega)]; have := Int.emod_nonneg (IntKind.i64.wrap (x.tdiv (n : Int))) (b := (n : Int) + 1) (by omega); omega⟩
  rw [hq]
  refine so_1 rfl ?_
  refine so_nil (sn_then ?_)
  refine sw_mid (S := List Nw) (fun _ => [(0, .int .i64 n), (1, .slice (some ⟨bk, off, none⟩) nums.length cn), (5, .slice (some ⟨g5, 0, none⟩) n n), (7, .slice A o c), (8, .int .i64 (o : Int)), (9, .int .i64 (r : Int))])
    (fun S => rEn A c o out :: all (evF out) :: rNw (some ⟨g5, 0, none⟩) n n S :: all (nowF S) :: F) (fun S => S.length = n ∧ Mn n (S.map (·.2)) (out.map em)) ?_ ?_
  · (refine sw_seq ?_; refine sw_region ?_; (iterate 3 refine so_1 rfl ?_); refine so_nil ?_; refine sn_then ?_)
    refine sw_if rfl (fun hqn => ?_) (fun hqn => ?_)
    rotate_left
    · (refine sw_skip ?_)
      exact sn_mid S ⟨rfl, rfl, rfl, rfl, rfl, rfl, trivial⟩ (Ent.refl _) ⟨i2, hMn⟩
    have hqn' : q < n := by omega
    have hrS : r < S.length := by omega
    have hqS : q < S.length := by omega
    have hrl : S[r].2.length = n := by have := hMn.nv r hrn; rwa [nw_get i2 hrn] at this
    have hql : S[q].2.length = n := by have := hMn.nv q hqn'; rwa [nw_get i2 hqn'] at this
    have hj := hMn.join hrn hqn'
    rw [nw_get i2 hrn, nw_get i2 hqn'] at hj
    skip
    refine sw_draw2 flo 12 _ [] rfl (by decide +kernel) (Ent.refl _) ?_
    ((iterate 4 refine sd_1 rfl (.inl rfl) ?_); refine sd_2 rfl rfl (by omega) ?_)
    refine sd_rd rfl (fun w H => ex_load rfl rfl rfl (by rw [mulz_eq, idx_lt, Nat.mul_one]; exact row_cell (k := 2) rfl (nwC_at hrS) w H)) rfl rfl ?_
    ((iterate 2 refine sd_1 rfl (.inl rfl) ?_); refine sd_2 rfl rfl (by omega) ?_)
    refine sd_rd rfl (fun w H => ex_load rfl rfl rfl (by rw [mulz_eq, idx_lt, Nat.mul_one]; exact row_cell (k := 2) rfl (nwC_at hqS) w H)) rfl rfl ?_
    refine sd_call rfl rfl rfl rfl (SC.ofMade fun w H => Join_spec (nowF_vl (k := 3) rfl hrS w H) (nowF_vl (k := 3) rfl hqS w H) (by omega) (by omega)) ?_
    rintro v57 _ rfl
    refine ⟨ent_keep 5 [1, 2, 3, 4] rfl rfl, ?_⟩
    refine sd_fact (fun w H => (H.oat (k := 0) rfl).form) ?_
    rintro ⟨A57, c57, rfl, _, _, _⟩
    (refine sd_2 rfl rfl (by omega) ?_)
    refine sd_nil (sn_draw2 rfl (ent_nil _) ?_)
    skip
    refine sd_strow 3 r rfl rfl rfl rfl rfl rfl rfl rfl rfl (nwC_set hrS _ (joinL S[r].2 S[q].2)) rfl (by rw [mulz_eq, idx_lt, Nat.mul_one]) (by rw [nwC_len]; simp; omega) (by simp [Value.oneCell']) (ent_nil _) ?_
    refine sd_nil ?_
    skip
    refine sn_mid (S.set r (.slice A57 (joinL S[r].2 S[q].2).length c57, joinL S[r].2 S[q].2)) ⟨rfl, rfl, rfl, rfl, rfl, rfl, trivial⟩ (((ent_keep 5 [0, 4, 1, 2, 3] rfl rfl).trans (ent_now hrS _ _)).trans (ent_keep 4 [1, 2, 3, 0] rfl rfl)) ⟨by rw [List.length_set]; exact i2, by rw [List.map_set]; exact hj⟩
  clear i2 hMn hq
  rintro S ⟨i2, hMn⟩
  have hrS : r < S.length := by omega
  have hrl : S[r].2.length = n := by have := hMn.nv r hrn; rwa [nw_get i2 hrn] at this
  have hst := hMn.step hMd hrn hn2 (by rw [List.length_map]; omega)
  rw [nw_get i2 hrn] at hst
  obtain ⟨hs1, hs2, hs3⟩ := hst
  have hc0 := hMn.own r hrn
  rw [nw_get i2 hrn] at hc0
  have hc1 := cnt_le ((r : Int) + 1) (out.map em)
  have hc2 := cnt_nonneg ((r : Int) + 1) (out.map em)
  rw [List.length_map] at hc1
  have hvr := fun {F : List SP} {k : Nat} (hk : nth F k = some (all (nowF S))) => nowF_vl (b := b) hk hrS
  have hrow : ∀ {F : List SP} {k : Nat}, nth F k = some (rNw (some ⟨g5, 0, none⟩) n n S) → ∀ w, Sat b F w → w.cell? ⟨g5, 0 + r, none⟩ = some S[r].1 := fun hk w H => row_cell hk (nwC_at hrS) w H
  have hsetC := fun v l => nwC_set hrS v l
  have hnow := fun {F : List SP} v l => ent_now (F := F) hrS v l
  have hmapset : ∀ v l, (S.set r (v, l)).map (·.2) = (S.map (·.2)).set r l := fun v l => by rw [List.map_set]
  generalize hD : S[r].2.getD r 0 = m at *
  generalize hxr : S[r] = xr at *
  obtain ⟨vr, D⟩ := xr
  dsimp only at *
  have hrD : r < D.length := by omega
  have hDm : D[r] = m := by rw [← getD_getElem hrD]; exact hD
  ((iterate 2 refine sw_seq ?_); refine sw_region ?_; (iterate 2 refine so_1 rfl ?_); refine so_2 rfl (by omega) ?_)
  refine so_rd rfl (fun w H => ex_load rfl rfl rfl (by rw [mulz_eq, idx_lt, Nat.mul_one]; exact hrow (k := 2) rfl w H)) rfl ?_
  refine so_fact (fun w H => (hvr (k := 3) rfl w H).form) ?_
  rintro ⟨Ar, cr, rfl, _, _, _, kr⟩
  obtain ⟨br, or, rfl⟩ := kr (by omega)
  ((iterate 3 refine so_1 rfl ?_); refine so_nil ?_; refine sn_then ?_)
  refine sw_know 65 (.bool false) rfl (by simp [hrl]) ?_
  refine sw_cond_f rfl (sw_skip (sn_then (sw_seq ?_)))
  refine sw_draw flo (rNw (some ⟨g5, 0, none⟩) n n S :: all (nowF S) :: F) (by decide +kernel) (ent_keep 4 [2, 3] rfl rfl) ?_
  ((iterate 2 refine sd_1 rfl (.inl rfl) ?_); refine sd_2 rfl rfl (by (unfold I64; omega)) ?_; (iterate 2 refine sd_1 rfl (.inl rfl) ?_); refine sd_2 rfl rfl (by omega) ?_)
  refine sd_rd rfl (fun w H => ex_load rfl rfl rfl (by rw [mulz_eq, idx_lt, Nat.mul_one]; exact hrow (k := 0) rfl w H)) rfl rfl ?_
  (refine sd_1 rfl (.inl rfl) ?_; refine sd_2 rfl rfl (by omega) ?_)
  refine sd_rd rfl (fun w H => ex_load rfl rfl rfl (by rw [mulz_eq, idx_lt, Nat.mul_one]; exact (VL.at (hvr (k := 1) rfl w H) r hrD).trans (by rw [hDm]))) rfl rfl ?_
  (refine sd_2 rfl rfl (by (unfold I64; omega)) ?_; (iterate 3 refine sd_1 rfl (.inl rfl) ?_); refine sd_2 rfl rfl (by omega) ?_)
  refine sd_rd rfl (fun w H => ex_load rfl rfl rfl (by rw [mulz_eq, idx_lt, Nat.mul_one]; exact hrow (k := 0) rfl w H)) rfl rfl ?_
  refine sd_call rfl rfl rfl rfl (CopyInts_S (xs := D) (hvr (k := 3) rfl) (by omega)) ?_
  rintro v82 _ rfl
  refine ⟨ent_keep 5 [3, 4] rfl rfl, ?_⟩
  refine sd_fact (fun w H => (H.oat (k := 0) rfl).form) ?_
  rintro ⟨A82, c82, rfl, _, _, _⟩
  (refine sd_1 rfl (.inl rfl) ?_)
  refine sd_know 83 (.agg ⟨evC (evA ((r : Int) + 1) (m + 1) (.slice A82 D.length c82) D)⟩) rfl rfl ?_
  refine sd_lit1 rfl rfl rfl rfl rfl rfl rfl rfl rfl (by decide) (ent_keep 5 [3, 4] rfl rfl) fun gl => ?_
  refine sd_append 2 rfl rfl rfl rfl rfl rfl rfl rfl rfl rfl (m := 1) (news := evC (evA ((r : Int) + 1) (m + 1) (.slice A82 D.length c82) D)) (fun w H => (H.blk (k := 0) rfl).sl rfl (by decide)) (evC_one rfl rfl) (by omega) (fun _ => rfl) (fun _ => ent_keep 6 [4, 5] rfl rfl) fun v85 => ?_
  refine sd_fact (fun w H => (H.oat (k := 2) rfl).form) ?_
  rintro ⟨A7, c7, rfl, _, _, _⟩
  (refine sd_1 rfl (.inl rfl) ?_)
  refine sd_nil ?_
  (refine sn_then ?_)
  refine sw_draw2 flo 19 _ [] rfl (by decide +kernel) (Ent.refl _) ?_
  ((iterate 4 refine sd_1 rfl (.inl rfl) ?_); refine sd_2 rfl rfl (by omega) ?_)
  refine sd_rd rfl (fun w H => ex_load rfl rfl rfl (by rw [mulz_eq, idx_lt, Nat.mul_one]; exact hrow (k := 4) rfl w H)) rfl rfl ?_
  (refine sd_1 rfl (.inl rfl) ?_; refine sd_2 rfl rfl (by (unfold I64; omega)) ?_; (iterate 2 refine sd_1 rfl (.inl rfl) ?_); refine sd_2 rfl rfl (by omega) ?_)
  refine sd_rd rfl (fun w H => ex_load rfl rfl rfl (by rw [mulz_eq, idx_lt, Nat.mul_one]; exact hrow (k := 4) rfl w H)) rfl rfl ?_
  (refine sd_1 rfl (.inl rfl) ?_; refine sd_2 rfl rfl (by omega) ?_)
  refine sd_rd rfl (fun w H => ex_load rfl rfl rfl (by rw [mulz_eq, idx_lt, Nat.mul_one]; exact (VL.at (hvr (k := 5) rfl w H) r hrD).trans (by rw [hDm]))) rfl rfl ?_
  (refine sd_2 rfl rfl (by (unfold I64; omega)) ?_; refine sd_1 rfl (.inl rfl) ?_)
  refine sd_call rfl rfl rfl rfl (SC.ofMade fun w H => With_spec_vector (hvr (k := 5) rfl w H) (by omega)) ?_
  rw [hs1]
  rintro v103 _ rfl
  refine ⟨ent_keep 7 [1, 2, 3, 4, 5, 6] rfl rfl, ?_⟩
  refine sd_fact (fun w H => (H.oat (k := 0) rfl).form) ?_
  rintro ⟨A103, c103, rfl, _, _, _⟩
  (refine sd_2 rfl rfl (by omega) ?_)
  refine sd_nil (sn_draw2 rfl (ent_nil _) ?_)
  skip
  refine sd_strow 5 r rfl rfl rfl rfl rfl rfl rfl rfl rfl (hsetC _ (advV D ((r : Int) + 1) (m + 1))) rfl (by rw [mulz_eq, idx_lt, Nat.mul_one]) (by rw [nwC_len]; simp; omega) (by simp [Value.oneCell']) (ent_nil _) ?_
  refine sd_nil ?_
  (refine sn_block ?_; refine sn_then ?_; refine sw_region ?_; refine so_1 rfl ?_; refine so_2 rfl (by (unfold I64; omega)) ?_; refine so_1 rfl ?_; refine so_nil ?_)
  have e1 : rEn A7 c7 (o + 1) (out ++ [evA ((r : Int) + 1) (m + 1) (.slice A82 D.length c82) D]) = row t_api_Event 39 (.slice A7 (o + 1) c7) (o + 1) (evsC out ++ evC (evA ((r : Int) + 1) (m + 1) (.slice A82 D.length c82) D)) := by
    simp only [rEn, flC_app, flC, List.append_nil]
  -- row103 gl rZ82 rEn evF rNw' nowF F
  refine sn_ent (G := evP (evA ((r : Int) + 1) (m + 1) (.slice A82 D.length c82) D) ++ (all (evF out) :: rEn A7 c7 (o + 1) (out ++ [evA ((r : Int) + 1) (m + 1) (.slice A82 D.length c82) D]) :: rZ (.slice A103 (advV D ((r : Int) + 1) (m + 1)).length c103) (advV D ((r : Int) + 1) (m + 1)) :: all (nowF S) :: rNw (some ⟨g5, 0, none⟩) n n (S.set r (.slice A103 (advV D ((r : Int) + 1) (m + 1)).length c103, advV D ((r : Int) + 1) (m + 1))) :: F)) (by rw [e1]; exact (ent_keep 7 [2, 4, 3, 0, 6, 5] rfl rfl).trans ((ent_row_nil t_api_ID 32 rfl).trans (ent_keep 2 [1, 0] rfl rfl))) ?_
  refine sn_ent (ent_in (A := evF (out ++ [evA ((r : Int) + 1) (m + 1) (.slice A82 D.length c82) D])) evF_snoc) ?_
  refine sn_ent ((ent_keep 5 [2, 3, 0, 1, 4] rfl rfl).trans (hnow _ _)) ?_
  refine sn_round (o + 1, S.set r (.slice A103 (advV D ((r : Int) + 1) (m + 1)).length c103, advV D ((r : Int) + 1) (m + 1)), out ++ [evA ((r : Int) + 1) (m + 1) (.slice A82 D.length c82) D], o + 1, A7, c7) ⟨rfl, rfl, rfl, rfl, rfl, trivial⟩ (ent_keep 4 [2, 1, 3, 0] rfl rfl) ⟨h1', by dsimp only; rw [List.length_set]; exact i2, ?_, ?_, by simp [i3], rfl, fun e he => ?_⟩ (by dsimp only; omega)
  · dsimp only
    rw [hmapset, List.map_append]; exact hs2
  · dsimp only
    rw [List.map_append]; exact hs3
  · rcases List.mem_append.1 he with he | he
    · exact i5 e he
    · rw [List.mem_singleton.1 he]; rfl
end
end Go.Proofs.Ytgkhflcpbjlmiaa
/- Queues, part forty-one: HoldCausal. Conditions: none. -/
namespace Go.Proofs.Ytgkhflcpbjlmiaa
open Go.Eng Go.RowKit Go.WideMaps Go.Heap

theorem Qp.outlen {A : List Em} {V : List Int} {L : List Wn} {out : List Ev} (hp : Qp A V L out) : out.length ≤ A.length := by
  have n1 : (out.map em).Nodup := by
    rw [List.nodup_iff_pairwise_ne, List.pairwise_map]
    exact hp.ord.imp fun {a c} h hc => h.2 ⟨congrArg (·.1) hc, congrArg (·.2.1) hc⟩
  have l1 := sub_len n1 (l' := A) fun y hy => by
    obtain ⟨e, he, rfl⟩ := List.mem_map.1 hy
    exact hp.outA e he
  simpa using l1
theorem Qp.start {A : List Em} {n : Nat} : Qp A (List.replicate n 0) [] [] := by
  refine ⟨fun w hw => by simp at hw, fun e he => by simp at he, fun e he => by simp at he, fun e he => by simp at he, fun q m h => ?_, .nil, fun e he => by simp at he, fun e he => by simp at he⟩
  exfalso
  obtain ⟨h1, h2, h3⟩ := has_iff'.1 h
  unfold atL at h3
  split at h3
  · unfold nn at h3
    rw [List.getD_eq_getElem?_getD, List.getElem?_replicate] at h3
    split at h3 <;> simp at h3 <;> omega
  · omega
section
variable {b : World} {F : List SP} {e f : Ev}
theorem Needs_S (he : ∀ w, Sat b F w → VL (Value.int .i64) w e.dv e.deps) : SC Try.prog n_event_Needs [evV e, evV f] b F (fun v F' => v = .bool (hasL e.deps f.r f.n) ∧ F' = F) := by
  refine enterS F_event_Needs rfl rfl rfl ?_
  (refine sw_seq ?_; refine sw_region ?_)
  refine so_box rfl rfl rfl rfl rfl fun g2 => ?_
  skip
  refine so_box rfl rfl rfl rfl rfl fun g3 => ?_
  (refine so_1 rfl ?_; refine so_nil ?_; refine sn_then ?_; refine sw_seq ?_; refine sw_region ?_; refine so_1 rfl ?_; refine so_l 1 rfl rfl rfl ?_; refine so_1 rfl ?_; refine so_l 0 rfl rfl rfl ?_)
  refine so_callE rfl rfl rfl (SC.ofExt fun w H => Has_spec_vector_Has (up he (ent_keep 2 [] rfl rfl) w H)) ?_
  (refine so_1 rfl ?_; refine so_nil ?_; refine sn_then ?_; refine sw_ret ?_)
  refine sn_ret rfl (.tmp rfl .nil) (ent_keep 2 [] rfl rfl) ?_
  exact ⟨rfl, rfl⟩
end
theorem QI.add' {n : Nat} {V : List Int} {L : List Wn} {e : Ev} (hq : QI n V L) (hew : EW e) {s : Int} (hl : e.refs.length ≤ 1000000) : QI n V (addL V L e s) := by
  unfold addL
  split
  · exact hq
  · rename_i h1
    have hf : fitsB n e s = true := by
      rw [← hq.len]
      cases hc : fitsB V.length e s with
      | true => rfl
      | false => exact absurd (.inl hc) h1
    have hh : hasL V e.r e.n = false := by
      cases hc : hasL V e.r e.n with
      | false => rfl
      | true => exact absurd (.inr hc) h1
    split
    · exact hq.setS hf
    · rename_i h2
      split
      · exact hq
      · exact hq.ins hf hh (by simpa using h2) hew hl (by omega)
theorem evA_EW {e : Ev} {n : Nat} {A : List Em} (hm : Md n A) (hn : n ≤ 16) (hA : A.length ≤ 1000) (h1 : e = evA e.r e.n e.dv e.deps) (h2 : em e ∈ A) : EW e ∧ e.deps.length = n ∧ e.refs = [] := by
  obtain ⟨i, hi, hie⟩ := List.mem_iff_getElem.1 h2
  have a1 := hm.r i hi
  have a2 := hm.le hi
  have a3 := hm.len i hi
  have a5 := hm.dep i hi
  have a6 := cnt_le A[i].1 A
  rw [hie] at a1 a2 a3 a5 a6
  dsimp only at a1 a2 a3 a5 a6
  rw [h1]
  refine ⟨evA_ew (by omega) (by omega) fun x hx => ?_, a3, rfl⟩
  obtain ⟨k, hk, rfl⟩ := List.mem_iff_getElem.1 hx
  have h3 := a5 k (by omega)
  rw [getD_getElem hk] at h3
  have h4 := cnt_le ((k : Int) + 1) (A.take i)
  rw [List.length_take] at h4
  omega
set_option maxRecDepth 20000 in
set_option maxHeartbeats 8000000 in
theorem walk_HoldCausal {W : World} {n : Int} {v1 v2 v3 : Value} {nums come next : List Int} (h1 : VL (Value.int .i64) W v1 nums) (h2 : VL (Value.int .i64) W v2 come) (h3 : VL (Value.int .i64) W v3 next) :
    Calls Try.prog n_entrepotlaw21_HoldCausal #[.int .i64 n, v1, v2, v3] W (fun e w' => e = .returned (.bool true) ∧ Ext W w') := by
  refine law_of (args := [.int .i64 n, v1, v2, v3]) ?_
  have r1 : ∀ {F : List SP} {k : Nat}, nth F k = some (Is W) → ∀ w, Sat W F w → VL (Value.int .i64) w v1 nums := fun hk w H => h1.ext (H.is hk)
  have r2 : ∀ {F : List SP} {k : Nat}, nth F k = some (Is W) → ∀ w, Sat W F w → VL (Value.int .i64) w v2 come := fun hk w H => h2.ext (H.is hk)
  have r3 : ∀ {F : List SP} {k : Nat}, nth F k = some (Is W) → ∀ w, Sat W F w → VL (Value.int .i64) w v3 next := fun hk w H => h3.ext (H.is hk)
  obtain ⟨A1, c1, rfl, _, _, _, _⟩ := h1.form
  obtain ⟨A2, c2, rfl, _, _, _, k2⟩ := h2.form
  obtain ⟨A3, c3, rfl, _, _, _, _⟩ := h3.form
  refine enterS F_entrepotlaw21_HoldCausal rfl rfl rfl ?_
  (refine sw_seq ?_; refine sw_region ?_; refine so_1 rfl ?_; refine so_nil ?_; refine sn_then ?_; refine sw_seq ?_; refine sw_region ?_)
  refine so_callE rfl rfl rfl (HoldKnown_S) ?_
  (refine so_1 rfl ?_; refine so_nil ?_; refine sn_then ?_; refine sw_seq ?_; refine sw_region ?_; refine so_1 rfl ?_)
  refine so_callE rfl rfl rfl (Pick_S (by unfold I64; omega)) ?_
  obtain ⟨m, hm⟩ : ∃ m : Nat, 1 + (if (6 : Int) ≤ 0 then 0 else n % 6) = (m : Int) := ⟨(1 + n % 6).toNat, by rw [if_neg (by omega)]; omega⟩
  have hm16 : 1 ≤ m ∧ m ≤ 6 := by rw [if_neg (by omega)] at hm; omega
  (refine so_2 rfl (by (unfold I64; omega)) ?_; refine so_1 rfl ?_; refine so_nil ?_; refine sn_then ?_; (iterate 2 refine sw_seq ?_); refine sw_region ?_; (iterate 4 refine so_1 rfl ?_))
  refine so_know 27 (.int .i64 m) rfl (congrArg (Value.int .i64) hm) ?_
  refine so_know 0 (.int .i64 m) rfl (congrArg (Value.int .i64) hm) ?_
  clear hm
  skip
  by_cases hl1 : 40 < nums.length
  · refine so_know 31 (.bool true) rfl (congrArg Value.bool (decide_eq_true (by omega))) ?_
    ((iterate 9 refine so_1 rfl ?_); refine so_nil ?_; refine sn_then ?_; refine sw_cond_t rfl ?_; refine sw_seq ?_; refine sw_region ?_; (iterate 2 refine so_1 rfl ?_); refine so_nil ?_; refine sn_then ?_; refine sw_ret ?_; refine sn_then_ret ?_)
    refine sn_ret rfl (.tmp rfl .nil) (Ent.refl _) ?_
    exact ⟨rfl, rfl⟩
  refine so_know 31 (.bool false) rfl (congrArg Value.bool (decide_eq_false (by omega))) ?_
  ((iterate 5 refine so_1 rfl ?_))
  by_cases hl2 : 60 < come.length
  · refine so_know 36 (.bool true) rfl (congrArg Value.bool (decide_eq_true (by omega))) ?_
    ((iterate 4 refine so_1 rfl ?_); refine so_nil ?_; refine sn_then ?_; refine sw_cond_t rfl ?_; refine sw_seq ?_; refine sw_region ?_; (iterate 2 refine so_1 rfl ?_); refine so_nil ?_; refine sn_then ?_; refine sw_ret ?_; refine sn_then_ret ?_)
    refine sn_ret rfl (.tmp rfl .nil) (Ent.refl _) ?_
    exact ⟨rfl, rfl⟩
  refine so_know 36 (.bool false) rfl (congrArg Value.bool (decide_eq_false (by omega))) ?_
  ((iterate 4 refine so_1 rfl ?_); refine so_nil ?_; refine sn_then ?_)
  by_cases hl3 : 60 < next.length
  · refine sw_know 40 (.bool true) rfl (congrArg Value.bool (decide_eq_true (by omega))) ?_
    (refine sw_cond_t rfl ?_; refine sw_seq ?_; refine sw_region ?_; (iterate 2 refine so_1 rfl ?_); refine so_nil ?_; refine sn_then ?_; refine sw_ret ?_; refine sn_then_ret ?_)
    refine sn_ret rfl (.tmp rfl .nil) (Ent.refl _) ?_
    exact ⟨rfl, rfl⟩
  refine sw_know 40 (.bool false) rfl (congrArg Value.bool (decide_eq_false (by omega))) ?_
  (refine sw_cond_f rfl ?_; refine sw_skip ?_; refine sn_then ?_; refine sw_seq ?_; refine sw_region ?_; (iterate 2 refine so_1 rfl ?_))
  refine so_call rfl rfl rfl (made_S (n := m) (nums := nums) (by omega) (by omega) (r1 (k := 0) rfl) (by omega)) ?_
  rintro _ _ ⟨A10, c10, es, hMd, hall, hshape, rfl, rfl⟩
  (refine so_1 rfl ?_; refine so_nil ?_; refine sn_then ?_; refine sw_seq ?_; refine sw_region ?_; refine so_1 rfl ?_)
  refine so_call rfl rfl rfl (New_Q (n := m) (by omega) (by omega)) ?_
  rintro _ _ ⟨gq, rfl, rfl⟩
  refine so_fact (que_qi (k := 0) rfl) fun hq0 => ?_
  refine so_fact (fun w H => (H.oat (k := 1) rfl).form) ?_
  rintro ⟨A10', c10', hv10, _, _, k10⟩
  cases hv10
  have hAl : (es.map em).length = es.length := List.length_map _
  have hEW : ∀ e ∈ es, EW e ∧ e.deps.length = m ∧ e.refs = [] := fun e he => evA_EW hMd (by omega) (by omega) (hshape e he) (List.mem_map.2 ⟨e, he, rfl⟩)
  have h32 : ∀ e ∈ es, e.id.length = 32 := fun e he => (hEW e he).1.l32
  ((iterate 5 refine so_1 rfl ?_); refine so_nil ?_; refine sn_then ?_; (iterate 2 refine sw_seq ?_); refine sw_region ?_; (iterate 13 refine so_1 rfl ?_); refine so_nil ?_; refine sn_then ?_)
  refine sw_know 62 (.bool false) rfl (by simp [hall]) ?_
  (refine sw_cond_f rfl ?_; refine sw_skip ?_; refine sn_then ?_; refine sw_seq ?_; refine sw_region ?_; refine so_1 rfl ?_; refine so_nil ?_; refine sn_then ?_; refine sw_seq ?_; refine sw_region ?_; refine so_1 rfl ?_; refine so_nil ?_; refine sn_then ?_; (iterate 2 refine sw_seq ?_); refine sw_region ?_; refine so_1 rfl ?_; refine so_nil ?_; refine sn_then ?_; refine sw_block ?_)
  refine sw_loop (S := Nat × List Int × List Wn × List Ev × Nat × Option Addr × Nat) (fun s => [(0, .int .i64 m), (2, .slice A2 come.length c2), (3, .slice A3 next.length c3), (9, .bool true), (10, .slice A10 es.length c10), (11, .pointer (some ⟨gq, 0, none⟩)), (13, .slice s.2.2.2.2.2.1 s.2.2.2.2.1 s.2.2.2.2.2.2), (14, .bool true), (15, .int .i64 (s.1 : Int))])
    (fun s => que gq m s.2.1 s.2.2.1 :: rEn s.2.2.2.2.2.1 s.2.2.2.2.2.2 s.2.2.2.2.1 s.2.2.2.1 :: all (evF s.2.2.2.1) :: rEn A10 c10 es.length es :: all (evF es) :: [Is W])
    (fun s => s.1 ≤ come.length + es.length ∧ QI m s.2.1 s.2.2.1 ∧ Qp (es.map em) s.2.1 s.2.2.1 s.2.2.2.1 ∧ s.2.2.2.1.length = s.2.2.2.2.1 ∧ ∀ j (hj : j < es.length), come.length + es.length ≤ s.1 + j → inQ s.2.1 s.2.2.1 (es[j].r, es[j].n)) (fun s => come.length + es.length - s.1) (0, List.replicate m 0, [], [], 0, none, 0) ⟨rfl, rfl, rfl, rfl, rfl, rfl, rfl, rfl, rfl, trivial⟩ (((ent_close (G := [])).trans (ent_row_nil t_api_Event 39 rfl)).trans (ent_keep 5 [2, 0, 1, 3, 4] rfl rfl)) ⟨Nat.zero_le _, hq0, Qp.start, rfl, fun j hj h => by dsimp only at h; omega⟩ ?_
  clear hq0
  rintro ⟨i, V, L, out, o, A13, c13⟩ ⟨i1, hq, hp, ho, hin⟩
  dsimp only at i1 hq hp ho hin ⊢
  have hol := hp.outlen
  rw [hAl] at hol
  subst ho
  ((iterate 2 refine sw_seq ?_); refine sw_region ?_; (iterate 5 refine so_1 rfl ?_); refine so_2 rfl (by (unfold I64; omega)) ?_; (iterate 2 refine so_1 rfl ?_))
  by_cases hlt : i < come.length + es.length
  · refine so_know 70 (.bool true) rfl (congrArg Value.bool (decide_eq_true (by omega))) ?_
    ((iterate 2 refine so_1 rfl ?_))
    (refine so_nil ?_; refine sn_then ?_; refine sw_cond_t rfl ?_; refine sw_skip ?_; refine sn_then ?_; refine sw_seq ?_; refine sw_block ?_; refine sw_seq ?_; refine sw_region ?_)
    ((iterate 4 refine so_1 rfl ?_); (iterate 2 refine so_2 rfl (by (unfold I64; omega)) ?_); refine so_1 rfl ?_; refine so_2 rfl (by (unfold I64; omega)) ?_; refine so_1 rfl ?_)
    refine so_nil (sn_then ?_)
    refine sw_mid (S := Int) (fun x => [(0, .int .i64 m), (2, .slice A2 come.length c2), (3, .slice A3 next.length c3), (9, .bool true), (10, .slice A10 es.length c10), (11, .pointer (some ⟨gq, 0, none⟩)), (13, .slice A13 out.length c13), (14, .bool true), (15, .int .i64 (i : Int)), (16, .int .i64 x)])
      (fun _ => que gq m V L :: rEn A13 c13 out.length out :: all (evF out) :: rEn A10 c10 es.length es :: all (evF es) :: [Is W]) (fun x => 0 ≤ x ∧ (es.length ≤ x → es.length = 0) ∧ (come.length ≤ i → x = (come.length : Int) + es.length - 1 - i) ∧ x < 200) ?_ ?_
    · (refine sw_seq ?_; refine sw_region ?_; (iterate 5 refine so_1 rfl ?_))
      by_cases hic : i < come.length
      · refine so_know 87 (.bool true) rfl (congrArg Value.bool (decide_eq_true (by omega))) ?_
        ((iterate 4 refine so_1 rfl ?_); refine so_nil ?_; refine sn_then ?_)
        by_cases hz : es.length = 0
        · refine sw_know 91 (.bool false) rfl (congrArg Value.bool (decide_eq_false (by omega))) ?_
          (refine sw_cond_f rfl ?_; refine sw_skip ?_)
          exact sn_mid ((come.length : Int) + es.length - 1 - i) ⟨rfl, rfl, rfl, rfl, rfl, rfl, rfl, rfl, rfl, rfl, trivial⟩ (Ent.refl _) ⟨by omega, fun _ => hz, fun h => by omega, by omega⟩
        · refine sw_know 91 (.bool true) rfl (congrArg Value.bool (decide_eq_true (by omega))) ?_
          obtain ⟨bc, oc, rfl⟩ := k2 (by omega)
          (refine sw_cond_t rfl ?_; refine sw_region ?_; (iterate 2 refine so_1 rfl ?_); refine so_2 rfl (by omega) ?_)
          refine so_rd rfl (fun w H => ex_load rfl rfl rfl (by rw [mulz_eq, idx_lt, Nat.mul_one]; exact VL.at (r2 (k := 5) rfl w H) i hic)) rfl ?_
          ((iterate 2 refine so_1 rfl ?_))
          refine so_callE rfl rfl rfl (Pick_S (by unfold I64; omega)) ?_
          have hp1 := Int.emod_nonneg come[i] (b := (es.length : Int)) (by omega)
          have hp2 := Int.emod_lt_of_pos come[i] (b := (es.length : Int)) (by omega)
          rw [if_neg (show ¬ ((es.length : Nat) : Int) ≤ 0 by omega)]
          generalize come[i] % (es.length : Int) = y at *
          (refine so_1 rfl ?_; refine so_nil ?_)
          exact sn_mid y ⟨rfl, rfl, rfl, rfl, rfl, rfl, rfl, rfl, rfl, rfl, trivial⟩ (Ent.refl _) ⟨by omega, fun h => by omega, fun h => by omega, by omega⟩
      · refine so_know 87 (.bool false) rfl (congrArg Value.bool (decide_eq_false (by omega))) ?_
        ((iterate 4 refine so_1 rfl ?_); refine so_nil ?_; refine sn_then ?_; refine sw_cond_f rfl ?_; refine sw_skip ?_)
        exact sn_mid ((come.length : Int) + es.length - 1 - i) ⟨rfl, rfl, rfl, rfl, rfl, rfl, rfl, rfl, rfl, rfl, trivial⟩ (Ent.refl _) ⟨by omega, fun _ => by omega, fun h => rfl, by omega⟩
    rintro x ⟨x1, x2, x3, x4⟩
    ((iterate 2 refine sw_seq ?_); refine sw_region ?_; (iterate 4 refine so_1 rfl ?_); refine so_nil ?_; refine sn_then ?_)
    by_cases hz : es.length = 0
    · refine sw_know 102 (.bool true) rfl (congrArg Value.bool (decide_eq_true (by omega))) ?_
      (refine sw_cond_t rfl ?_; refine sw_exit ?_; refine sn_then_exit ?_; refine sn_block_exit ?_; refine sn_then ?_; refine sw_region ?_; refine so_1 rfl ?_; refine so_2 rfl (by (unfold I64; omega)) ?_; refine so_1 rfl ?_; refine so_nil ?_)
      refine sn_round (i + 1, V, L, out, out.length, A13, c13) ⟨rfl, rfl, rfl, rfl, rfl, rfl, rfl, rfl, rfl, trivial⟩ (Ent.refl _) ⟨by dsimp only; omega, hq, hp, rfl, fun j hj => by omega⟩ (by dsimp only; omega)
    refine sw_know 102 (.bool false) rfl (congrArg Value.bool (decide_eq_false (by omega))) ?_
    obtain ⟨k, rfl⟩ : ∃ k : Nat, x = (k : Int) := ⟨x.toNat, by omega⟩
    have hk : k < es.length := by omega
    obtain ⟨gA, oA, rfl⟩ := k10 (by omega)
    have hkm := List.getElem_mem hk
    have hc : ∀ w, Sat W [rEn (some ⟨gA, oA, none⟩) c10 es.length es, all (evF es), Is W] w → ∀ j, j < 39 → w.cell? ⟨gA, oA + k * 39 + j, none⟩ = (evC es[k])[j]? := fun w H j hj => fl_cell (H.oat (k := 0) rfl).sl (ev_len h32) hk hj
    obtain ⟨hke, hkd, hkr⟩ := hEW _ hkm
    have hker : ∀ w, Sat W [rEn (some ⟨gA, oA, none⟩) c10 es.length es, all (evF es), Is W] w → ER w es[k] := fun w H => evF_er (k := 1) rfl hkm w H
    have hfit : ∀ s : Int, 1 ≤ s → s ≤ m → fitsB m es[k] s = true := fun s hs1 hs2 => hMd.fits (i := k) (by omega) (by omega) (by rw [List.getElem_map]) hs1 hs2
    have hkA : em es[k] ∈ es.map em := List.mem_map.2 ⟨_, hkm, rfl⟩
    have hink : ∀ {V' : List Int} {L' : List Wn}, inQ V' L' (es[k].r, es[k].n) → (∀ d, inQ V L d → inQ V' L' d) → ∀ j (hj : j < es.length), come.length + es.length ≤ i + 1 + j → inQ V' L' (es[j].r, es[j].n) := fun h1 h2 j hj hle => by
      by_cases hjj : come.length + es.length ≤ i + j
      · exact h2 _ (hin j hj hjj)
      · have hx := x3 (by omega)
        obtain rfl : j = k := by omega
        exact h1
    have hVm := hq.len
    generalize es[k] = ek at *
    have hk32 := hke.l32
    (refine sw_cond_f rfl ?_; refine sw_skip ?_; refine sn_then ?_; refine sw_seq ?_)
    refine sw_draw flo (rEn (some ⟨gA, oA, none⟩) c10 es.length es :: all (evF es) :: [Is W]) (by decide +kernel) (ent_keep 5 [3, 4] rfl rfl) ?_
    ((iterate 3 refine sd_1 rfl (.inl rfl) ?_); refine sd_2 rfl rfl (by omega) ?_)
    refine sd_rd rfl (fun w H => ex_loadN (cs := evC ek) rfl rfl rfl (evC_len hk32) (fun j hj => by rw [evC_len hk32] at hj; rw [mulz_eq, idx_lt]; exact hc w H j hj)) rfl rfl ?_
    ((iterate 2 refine sd_1 rfl (.inl rfl) ?_); refine sd_2 rfl rfl (by omega) ?_)
    have him : i % m < m := Nat.mod_lt _ (by omega)
    refine sd_know 111 (.int .i64 ((i % m : Nat) : Int)) rfl rfl ?_
    generalize i % m = im at *
    (refine sd_2 rfl rfl (by (unfold I64; omega)) ?_)
    have hfk := hfit (1 + (im : Int)) (by omega) (by omega)
    have hfk' : fitsB V.length ek (1 + (im : Int)) = true := by rw [hVm]; exact hfk
    obtain ⟨hE, hp', hin1, hin2⟩ := hp.add hq (e := ek) (s := 1 + (im : Int)) (by omega) hkA hfk'
    have hq' := hq.add' hke (s := 1 + (im : Int)) (by rw [hkr]; decide)
    refine sd_call rfl rfl rfl rfl (Add_S (gq := gq) (n := m) (V := V) (L := L) (e := ek) (s := 1 + (im : Int)) (up (fun w H => (hker w H).dv) (ent_keep 2 [] rfl rfl)) (up (fun w H => (hker w H).rv) (ent_keep 2 [] rfl rfl)) (by omega) (by rw [hkr]; decide) hke) ?_
    rintro _ _ ⟨rfl, rfl⟩
    refine ⟨ent_keep 5 [3, 4] rfl rfl, ?_⟩
    rw [hE]
    ((iterate 5 refine sd_1 rfl (.inl rfl) ?_))
    refine sd_nil ?_
    (refine sn_then ?_; refine sw_seq ?_; refine sw_region ?_; (iterate 3 refine so_1 rfl ?_); refine so_nil ?_; refine sn_then ?_; refine sw_seq ?_; refine sw_region ?_; (iterate 3 refine so_1 rfl ?_); refine so_2 rfl (by omega) ?_; (iterate 2 refine so_1 rfl ?_); refine so_nil ?_; refine sn_then ?_)
    by_cases hi3 : ((i : Int).tmod 3) = 0
    · refine sw_know 123 (.bool true) rfl (congrArg Value.bool (decide_eq_true hi3)) ?_
      (refine sw_cond_t rfl ?_; refine sw_region ?_; (iterate 3 refine so_1 rfl ?_))
      refine so_call rfl rfl rfl (dr_S (gq := gq) (n := m) (nx := next) (F := [rEn (some ⟨gA, oA, none⟩) c10 es.length es, all (evF es), Is W]) (r3 (k := 2) rfl) hq' hp' (by omega) (by omega)) ?_
      rintro _ _ ⟨A4, c4, V', L', out', hq2, hp2, hr2, hin3, hol2, rfl, rfl⟩
      ((iterate 5 refine so_1 rfl ?_); refine so_nil ?_; refine sn_block ?_; refine sn_then ?_; refine sw_region ?_; refine so_1 rfl ?_; refine so_2 rfl (by (unfold I64; omega)) ?_; refine so_1 rfl ?_; refine so_nil ?_)
      refine sn_round (i + 1, V', L', out', out'.length, A4, c4) ⟨rfl, rfl, rfl, rfl, rfl, rfl, rfl, rfl, rfl, trivial⟩ (Ent.refl _) ⟨by dsimp only; omega, hq2, hp2, rfl, fun j hj hle => hin3 _ (hink hin1 hin2 j hj hle)⟩ (by dsimp only; omega)
    · refine sw_know 123 (.bool false) rfl (congrArg Value.bool (decide_eq_false hi3)) ?_
      (refine sw_cond_f rfl ?_; refine sw_skip ?_; refine sn_block ?_; refine sn_then ?_; refine sw_region ?_; refine so_1 rfl ?_; refine so_2 rfl (by (unfold I64; omega)) ?_; refine so_1 rfl ?_; refine so_nil ?_)
      refine sn_round (i + 1, V, addL V L ek (1 + (im : Int)), out, out.length, A13, c13) ⟨rfl, rfl, rfl, rfl, rfl, rfl, rfl, rfl, rfl, trivial⟩ (Ent.refl _) ⟨by dsimp only; omega, hq', hp', rfl, fun j hj hle => hink hin1 hin2 j hj hle⟩ (by dsimp only; omega)
  · refine so_know 70 (.bool false) rfl (congrArg Value.bool (decide_eq_false (by omega))) ?_
    ((iterate 2 refine so_1 rfl ?_); refine so_nil ?_; refine sn_then ?_; refine sw_cond_f rfl ?_; refine sw_exit ?_; refine sn_then_exit ?_; refine sn_loop_exit ?_; refine sn_block_exit ?_; refine sn_then ?_; refine sw_seq ?_; refine sw_region ?_; (iterate 3 refine so_1 rfl ?_))
    refine so_call rfl rfl rfl (dr_S (gq := gq) (n := m) (nx := next) (F := [rEn A10 c10 es.length es, all (evF es), Is W]) (r3 (k := 2) rfl) hq hp (by omega) (by omega)) ?_
    rintro _ _ ⟨A4, c4, V', L', out', hq2, hp2, hr2, hin3, hol2, rfl, rfl⟩
    have hdone := hp2.done hq2 hMd hr2 fun j hj => by
      have hj' : j < es.length := by omega
      have := hin3 _ (hin j hj' (by omega))
      rw [List.getElem_map]; exact this
    obtain ⟨hL0, hol3, hcnt⟩ := hdone
    rw [hAl] at hol3
    subst hL0
    have hordP := hp2.ord
    have hself := hp2.self
    have houtA := hp2.outA
    refine so_fact (fun w H => (H.oat (k := 1) rfl).form) ?_
    rintro ⟨A4', c4', hv4, _, _, k4⟩
    cases hv4
    ((iterate 5 refine so_1 rfl ?_); refine so_nil ?_; refine sn_then ?_; (iterate 2 refine sw_seq ?_); refine sw_region ?_; (iterate 14 refine so_1 rfl ?_))
    refine so_know 151 (.bool false) rfl (congrArg Value.bool (by simp [hol3])) ?_
    (refine so_1 rfl ?_)
    refine so_call rfl rfl rfl (Held_Q (gq := gq) (n := m) (V := V') (L := [])) ?_
    rintro v153 _ ⟨D, hD, rfl⟩
    obtain rfl : D = [] := by simpa using hD
    refine so_fact (fun w H => (H.oat (k := 0) rfl).form) ?_
    rintro ⟨A5, c5, rfl, _, _, _⟩
    refine so_ent (ent_keep 3 [2] rfl rfl) ?_
    ((iterate 3 refine so_1 rfl ?_); refine so_nil ?_; refine sn_then ?_; refine sw_cond_f rfl ?_; refine sw_skip ?_; refine sn_then ?_; refine sw_seq ?_; refine sw_region ?_; refine so_1 rfl ?_)
    refine so_make (sz := 1) (n := m) (cs := ints (List.replicate m 0)) rfl rfl rfl rfl rfl rfl rfl rfl rfl (by omega) (by rw [ints, List.map_replicate]; exact made_one _ _) fun g158 => ?_
    refine so_ent (G := row t_int 1 (.slice (some ⟨g158, 0, none⟩) m m) m (ints (List.replicate m 0)) :: que gq m V' [] :: rEn A4 c4 out'.length out' :: all (evF out') :: rEn A10 c10 es.length es :: all (evF es) :: [Is W]) (Ent.refl _) ?_
    (refine so_1 rfl ?_; refine so_nil ?_; refine sn_then ?_; (iterate 2 refine sw_seq ?_); refine sw_region ?_; refine so_1 rfl ?_; refine so_nil ?_; refine sn_then ?_; refine sw_block ?_)
    refine sw_loop (S := Nat × List Int × Option Addr × Nat) (fun s => [(9, .bool true), (10, .slice A10 es.length c10), (11, .pointer (some ⟨gq, 0, none⟩)), (13, .slice A4 out'.length c4), (20, .slice s.2.2.1 m s.2.2.2), (21, .int .i64 (s.1 : Int))])
      (fun s => row t_int 1 (.slice s.2.2.1 m s.2.2.2) m (ints s.2.1) :: que gq m V' [] :: rEn A4 c4 out'.length out' :: all (evF out') :: rEn A10 c10 es.length es :: all (evF es) :: [Is W])
      (fun s => s.1 ≤ es.length ∧ s.2.1.length = m ∧ ∀ q, q < m → s.2.1.getD q 0 = cnt ((q : Int) + 1) ((es.map em).take s.1)) (fun s => es.length - s.1) (0, List.replicate m 0, some ⟨g158, 0, none⟩, m) ⟨rfl, rfl, rfl, rfl, rfl, rfl, trivial⟩ (Ent.refl _) ⟨Nat.zero_le _, List.length_replicate, fun q hq => by
        rw [List.getD_eq_getElem?_getD, List.getElem?_replicate, if_pos hq]; rfl⟩ ?_
    rintro ⟨p, Wv, A20, c20⟩ ⟨p1, p2, p3⟩
    dsimp only at p1 p2 p3 ⊢
    ((iterate 2 refine sw_seq ?_); refine sw_region ?_; (iterate 4 refine so_1 rfl ?_); refine so_nil ?_; refine sn_then ?_)
    refine sw_if rfl (fun g1 => ?_) (fun g1 => ?_)
    · have hpl : p < es.length := by omega
      obtain ⟨gA, oA, rfl⟩ := k10 (by omega)
      have hc : ∀ w, Sat W (row t_int 1 (.slice A20 m c20) m (ints Wv) :: que gq m V' [] :: rEn A4 c4 out'.length out' :: all (evF out') :: rEn (some ⟨gA, oA, none⟩) c10 es.length es :: all (evF es) :: [Is W]) w → ∀ j, j < 39 → w.cell? ⟨gA, oA + p * 39 + j, none⟩ = (evC es[p])[j]? := fun w H j hj => fl_cell (H.oat (k := 4) rfl).sl (ev_len h32) hpl hj
      have hr1 := hMd.r p (by omega)
      have hm1 := hMd.m p (by omega)
      simp only [List.getElem_map] at hr1 hm1
      have htk : (es.map em).take (p + 1) = (es.map em).take p ++ [em es[p]] := by rw [take_snoc (by omega), List.getElem_map]
      generalize es[p] = ep at *
      obtain ⟨kr, hkr⟩ : ∃ kr : Nat, ep.r = (kr : Int) + 1 := ⟨(ep.r - 1).toNat, by omega⟩
      have hkm : kr < m := by omega
      have hcn := fun q => cnt_nonneg q ((es.map em).take p)
      have hcl := fun q => cnt_le q ((es.map em).take p)
      have htl : ((es.map em).take p).length ≤ 40 := by rw [List.length_take]; omega
      have hWn : numOk Wv := fun x hx => by
        obtain ⟨k, hk, rfl⟩ := List.mem_iff_getElem.1 hx
        have h5 := p3 k (by omega)
        rw [getD_getElem hk] at h5
        have := hcn ((k : Int) + 1); have := hcl ((k : Int) + 1)
        omega
      have hWr := p3 kr hkm
      have hat : atL Wv ep.r = cnt ep.r ((es.map em).take p) := by
        have := hcn ep.r
        rw [atL, if_pos (by omega), hkr, show ((kr : Int) + 1 - 1).toNat = kr by omega, nn_getD (by rw [hWr]; exact hcn _), hWr]
      have hwl : withL Wv ep.r ep.n = advV Wv ep.r ep.n := withL_adv hWn (by omega) (by omega) (by omega) (by have := hcn ep.r; omega) (by omega)
      have hadl : (advV Wv ep.r ep.n).length = m := by simp [advV, p2]
      (refine sw_skip ?_; refine sn_then ?_; refine sw_seq ?_; refine sw_block ?_; refine sw_region ?_; (iterate 3 refine so_1 rfl ?_); refine so_2 rfl (by omega) ?_; refine so_1 rfl ?_)
      refine so_rd rfl (fun w H => ex_loadN (cs := [.int .i64 ep.r, .int .i64 ep.n]) rfl rfl rfl rfl (fun j hj => by
        rw [mulz_eq, idx_lt]
        rcases j with _ | _ | j
        · exact (hc w H 0 (by omega)).trans rfl
        · exact (hc w H 1 (by omega)).trans rfl
        · simp only [List.length_cons, List.length_nil] at hj; omega)) rfl ?_
      refine so_call rfl rfl rfl (SC.ofMade fun w H => With_spec_vector (xs := Wv) (by have h6 := (H.oat (k := 0) rfl).sl; unfold IL VL; rw [p2]; exact h6) (by omega)) ?_
      rw [hwl, hadl]
      rintro v171 _ rfl
      refine so_fact (fun w H => (H.oat (k := 0) rfl).form) ?_
      rintro ⟨A21, c21, rfl, _, _, _⟩
      (refine so_1 rfl ?_; refine so_nil ?_; refine sn_block ?_; refine sn_then ?_; refine sw_region ?_; refine so_1 rfl ?_; refine so_2 rfl (by (unfold I64; omega)) ?_; refine so_1 rfl ?_; refine so_nil ?_)
      refine sn_round (p + 1, advV Wv ep.r ep.n, A21, c21) ⟨rfl, rfl, rfl, rfl, rfl, rfl, trivial⟩ (ent_keep 2 [0] rfl rfl) ⟨hpl, hadl, fun q hq => ?_⟩ (by dsimp only; omega)
      dsimp only
      rw [htk, cnt_snoc, hkr, adv_getD (by omega)]
      have h7 := p3 q hq
      by_cases e : kr = q
      · subst e
        rw [if_pos rfl, if_pos (by show ep.r = _; omega)]
        rw [← hkr]; exact hm1
      · rw [if_neg e, if_neg (by show ¬ ep.r = _; omega), h7]; omega
    · obtain rfl : p = es.length := by omega
      have hWV : Wv = V' := by
        apply List.ext_getElem
        · rw [p2, hq2.len]
        · intro k hk1 hk2
          rw [← getD_getElem hk1, ← getD_getElem hk2, p3 k (by omega), hcnt k (by omega)]
          congr 1
          rw [List.take_of_length_le (by omega)]
      subst hWV
      clear g1 p3 hcnt
      (refine sw_exit ?_; refine sn_then_exit ?_; refine sn_loop_exit ?_; refine sn_block_exit ?_; refine sn_then ?_; (iterate 2 refine sw_seq ?_); refine sw_region ?_; refine so_1 rfl ?_; refine so_nil ?_; refine sn_then ?_; refine sw_block ?_)
      refine sw_loop (S := Nat) (fun i => [(9, .bool true), (11, .pointer (some ⟨gq, 0, none⟩)), (13, .slice A4 out'.length c4), (20, .slice A20 m c20), (22, .int .i64 (i : Int))])
        (fun _ => row t_int 1 (.slice A20 m c20) m (ints Wv) :: que gq m Wv [] :: rEn A4 c4 out'.length out' :: all (evF out') :: [Is W]) (fun i => i ≤ out'.length) (fun i => out'.length - i) 0 ⟨rfl, rfl, rfl, rfl, rfl, trivial⟩ (ent_keep 6 [0, 1, 2, 3] rfl rfl) (Nat.zero_le _) ?_
      intro x hx
      ((iterate 2 refine sw_seq ?_); refine sw_region ?_; (iterate 4 refine so_1 rfl ?_); refine so_nil ?_; refine sn_then ?_)
      refine sw_if rfl (fun g2 => ?_) (fun g2 => ?_)
      · (refine sw_skip ?_; refine sn_then ?_; refine sw_seq ?_; refine sw_block ?_; refine sw_seq ?_; refine sw_region ?_; (iterate 2 refine so_1 rfl ?_); refine so_nil ?_; refine sn_then ?_; refine sw_block ?_)
        refine sw_loop (S := Nat) (fun k => [(9, .bool true), (11, .pointer (some ⟨gq, 0, none⟩)), (13, .slice A4 out'.length c4), (20, .slice A20 m c20), (22, .int .i64 (x : Int)), (23, .int .i64 (k : Int))])
          (fun _ => row t_int 1 (.slice A20 m c20) m (ints Wv) :: que gq m Wv [] :: rEn A4 c4 out'.length out' :: all (evF out') :: [Is W]) (fun k => x ≤ k ∧ k ≤ out'.length) (fun k => out'.length - k) x ⟨rfl, rfl, rfl, rfl, rfl, rfl, trivial⟩ (Ent.refl _) ⟨Nat.le_refl _, hx⟩ ?_
        rintro k ⟨hk1, hk2⟩
        ((iterate 2 refine sw_seq ?_); refine sw_region ?_; (iterate 4 refine so_1 rfl ?_); refine so_nil ?_; refine sn_then ?_)
        refine sw_if rfl (fun g3 => ?_) (fun g3 => ?_)
        · have hxl : x < out'.length := by omega
          have hkl : k < out'.length := by omega
          obtain ⟨gB, oB, rfl⟩ := k4 (by omega)
          have ho32 : ∀ e ∈ out', e.id.length = 32 := fun e he => (hp2.ew e he).l32
          have hcx : ∀ w, Sat W (row t_int 1 (.slice A20 m c20) m (ints Wv) :: que gq m Wv [] :: rEn (some ⟨gB, oB, none⟩) c4 out'.length out' :: all (evF out') :: [Is W]) w → ∀ j, j < 39 → w.cell? ⟨gB, oB + x * 39 + j, none⟩ = (evC out'[x])[j]? := fun w H j hj => fl_cell (H.oat (k := 2) rfl).sl (ev_len ho32) hxl hj
          have hck : ∀ w, Sat W (row t_int 1 (.slice A20 m c20) m (ints Wv) :: que gq m Wv [] :: rEn (some ⟨gB, oB, none⟩) c4 out'.length out' :: all (evF out') :: [Is W]) w → ∀ j, j < 39 → w.cell? ⟨gB, oB + k * 39 + j, none⟩ = (evC out'[k])[j]? := fun w H j hj => fl_cell (H.oat (k := 2) rfl).sl (ev_len ho32) hkl hj
          have hxm := List.getElem_mem hxl
          have hkm := List.getElem_mem hkl
          have hx32 := ho32 _ hxm
          have hk32 := ho32 _ hkm
          have hneed : hasL out'[x].deps out'[k].r out'[k].n = false ∧ (x < k → ¬ (out'[x].r = out'[k].r ∧ out'[x].n = out'[k].n)) := by
            by_cases hxk : x < k
            · have h9 := List.pairwise_iff_getElem.1 hordP x k hxl hkl hxk
              exact ⟨h9.1, fun _ => h9.2⟩
            · obtain rfl : k = x := by omega
              exact ⟨hself _ hxm, fun h => absurd h hxk⟩
          have her : ∀ w, Sat W (row t_int 1 (.slice A20 m c20) m (ints Wv) :: que gq m Wv [] :: rEn (some ⟨gB, oB, none⟩) c4 out'.length out' :: all (evF out') :: [Is W]) w → ER w out'[x] := fun w H => evF_er (k := 3) rfl hxm w H
          generalize out'[x] = ex at *
          generalize out'[k] = ek at *
          obtain ⟨hn1, hn2⟩ := hneed
          (refine sw_skip ?_; refine sn_then ?_; refine sw_seq ?_; refine sw_block ?_; refine sw_seq ?_)
          refine sw_draw flo _ (by decide +kernel) (Ent.refl _) ?_
          ((iterate 2 refine sd_1 rfl (.inl rfl) ?_); refine sd_2 rfl rfl (by omega) ?_)
          refine sd_rd rfl (fun w H => ex_loadN (cs := evC ex) rfl rfl rfl (evC_len hx32) (fun j hj => by rw [evC_len hx32] at hj; rw [mulz_eq, idx_lt]; exact hcx w H j hj)) rfl rfl ?_
          ((iterate 2 refine sd_1 rfl (.inl rfl) ?_); refine sd_2 rfl rfl (by omega) ?_)
          refine sd_rd rfl (fun w H => ex_loadN (cs := evC ek) rfl rfl rfl (evC_len hk32) (fun j hj => by rw [evC_len hk32] at hj; rw [mulz_eq, idx_lt]; exact hck w H j hj)) rfl rfl ?_
          refine sd_callE rfl rfl rfl rfl (Needs_S (e := ex) (f := ek) (fun w H => (her w H).dv)) (Ent.refl _) ?_
          rw [hn1]
          ((iterate 5 refine sd_1 rfl (.inl rfl) ?_))
          by_cases hxk : x < k
          · refine sd_know 198 (.bool true) rfl (congrArg Value.bool (decide_eq_true (by omega))) ?_
            ((iterate 2 refine sd_1 rfl (.inl rfl) ?_); refine sd_2 rfl rfl (by omega) ?_; refine sd_1 rfl (.inl rfl) ?_)
            refine sd_rd rfl (fun w H => ex_loadN (cs := [.int .i64 ex.r, .int .i64 ex.n]) rfl rfl rfl rfl (fun j hj => by
              rw [mulz_eq, idx_lt]
              rcases j with _ | _ | j
              · exact (hcx w H 0 (by omega)).trans rfl
              · exact (hcx w H 1 (by omega)).trans rfl
              · simp only [List.length_cons, List.length_nil] at hj; omega)) rfl rfl ?_
            ((iterate 2 refine sd_1 rfl (.inl rfl) ?_); refine sd_2 rfl rfl (by omega) ?_; refine sd_1 rfl (.inl rfl) ?_)
            refine sd_rd rfl (fun w H => ex_loadN (cs := [.int .i64 ek.r, .int .i64 ek.n]) rfl rfl rfl rfl (fun j hj => by
              rw [mulz_eq, idx_lt]
              rcases j with _ | _ | j
              · exact (hck w H 0 (by omega)).trans rfl
              · exact (hck w H 1 (by omega)).trans rfl
              · simp only [List.length_cons, List.length_nil] at hj; omega)) rfl rfl ?_
            refine sd_pu rfl (pu_eqA rfl rfl (eq_dot _ _ _ _)) rfl rfl ?_
            refine sd_know 209 (.bool false) rfl (congrArg Value.bool (decide_eq_false (hn2 hxk))) ?_
            ((iterate 2 refine sd_1 rfl (.inl rfl) ?_))
            refine sd_nil ?_
            (refine sn_then ?_; refine sw_cond_f rfl ?_; refine sw_skip ?_; refine sn_block ?_; refine sn_then ?_; refine sw_region ?_; refine so_1 rfl ?_; refine so_2 rfl (by (unfold I64; omega)) ?_; refine so_1 rfl ?_; refine so_nil ?_)
            refine sn_round (k + 1) ⟨rfl, rfl, rfl, rfl, rfl, rfl, trivial⟩ (Ent.refl _) ⟨by omega, by omega⟩ ?_
            show out'.length - (k + 1) < out'.length - k
            omega
          · refine sd_know 198 (.bool false) rfl (congrArg Value.bool (decide_eq_false (by omega))) ?_
            ((iterate 13 refine sd_1 rfl (.inl rfl) ?_))
            refine sd_nil ?_
            (refine sn_then ?_; refine sw_cond_f rfl ?_; refine sw_skip ?_; refine sn_block ?_; refine sn_then ?_; refine sw_region ?_; refine so_1 rfl ?_; refine so_2 rfl (by (unfold I64; omega)) ?_; refine so_1 rfl ?_; refine so_nil ?_)
            refine sn_round (k + 1) ⟨rfl, rfl, rfl, rfl, rfl, rfl, trivial⟩ (Ent.refl _) ⟨by omega, by omega⟩ ?_
            show out'.length - (k + 1) < out'.length - k
            omega
        · (refine sw_exit ?_; refine sn_then_exit ?_; refine sn_loop_exit ?_; refine sn_block_exit ?_; refine sn_block ?_; refine sn_then ?_; refine sw_region ?_; refine so_1 rfl ?_; refine so_2 rfl (by (unfold I64; omega)) ?_; refine so_1 rfl ?_; refine so_nil ?_)
          refine sn_round (x + 1) ⟨rfl, rfl, rfl, rfl, rfl, trivial⟩ (Ent.refl _) ?_ ?_
          · show x + 1 ≤ out'.length
            omega
          · show out'.length - (x + 1) < out'.length - x
            omega
      · (refine sw_exit ?_; refine sn_then_exit ?_; refine sn_loop_exit ?_; refine sn_block_exit ?_; refine sn_then ?_; refine sw_seq ?_; refine sw_region ?_; (iterate 3 refine so_1 rfl ?_))
        refine so_call rfl rfl rfl ((Vector_Q (gq := gq) (n := m) (V := Wv) (L := [])).ent (ent_keep 2 [1, 0] rfl rfl)) ?_
        rintro v215 _ rfl
        (refine so_1 rfl ?_)
        refine so_callE rfl rfl rfl (SameInts_S (xs := Wv) (ys := Wv) (vlZ (k := 0) rfl) (fun w H => by have h6 := (H.oat (k := 2) rfl).sl; unfold VL; rw [p2]; exact h6)) ?_
        ((iterate 2 refine so_1 rfl ?_); refine so_nil ?_; refine sn_then ?_; refine sw_ret ?_)
        refine sn_ret rfl (.tmp rfl .nil) (ent_keep 5 [] rfl rfl) ?_
        exact ⟨by simp [tupl], rfl⟩
end Go.Proofs.Ytgkhflcpbjlmiaa
