/- What is a repository's name: the plain law: a machine of four states, and the document's look at the last two bytes. Conditions: none. -/
import Derived.Test.YtjfileaidgknjaaK4
import Derived.Laws.RangeAny
import Derived.Test.YtjfileaidgknjaaK3
namespace Go.Proofs.Ytjfileaidgknjaa
open Go Go.Eng

def lowB (c : Int) : Bool := (decide (97 ≤ c) && decide (c ≤ 122)) || (decide (48 ≤ c) && decide (c ≤ 57))
theorem lowB_iff {c : Int} : lowB c = true ↔ (97 ≤ c ∧ c ≤ 122) ∨ (48 ≤ c ∧ c ≤ 57) := by simp [lowB]
inductive RK | word | inside | second | dashes
  deriving DecidableEq
abbrev RQ := RK × Nat
def wstep (n : Nat) (c : Int) : Option RQ := if lowB c = true then some (.inside, n) else none
def rstep : RQ → Int → Option RQ
  | (.word, n), c => wstep n c
  | (.inside, n), c => if c = 47 ∧ 0 < n then some (.word, n - 1) else if c = 46 then some (.word, n) else if c = 95 then some (.second, n) else if c = 45 then some (.dashes, n) else wstep n c
  | (.second, n), c => if c = 95 then some (.word, n) else wstep n c
  | (.dashes, n), c => if c = 45 then some (.dashes, n) else wstep n c
theorem wstep_ascii {n : Nat} {c : Int} {q : RQ} (h : wstep n c = some q) : 0 ≤ c ∧ c < 128 := by
  unfold wstep at h
  split at h
  · rename_i hl; have := lowB_iff.1 hl; omega
  · cases h
theorem rstep_ascii {q q' : RQ} {c : Int} (h : rstep q c = some q') : 0 ≤ c ∧ c < 128 := by
  obtain ⟨k, n⟩ := q
  cases k <;> simp only [rstep] at h
  · exact wstep_ascii h
  · split at h
    · omega
    · split at h
      · omega
      · split at h
        · omega
        · split at h
          · omega
          · exact wstep_ascii h
  · split at h
    · omega
    · exact wstep_ascii h
  · split at h
    · omega
    · exact wstep_ascii h

def lastB (L : List Int) : Int := L.getLast?.getD 47
def aheadB (L : List Int) : Int := L.dropLast.getLast?.getD 47
def slashes (L : List Int) : Nat := L.countP (fun c => decide (c = 47))
theorem lastB_snoc (L : List Int) (c : Int) : lastB (L ++ [c]) = c := by simp [lastB]
theorem aheadB_snoc (L : List Int) (c : Int) : aheadB (L ++ [c]) = lastB L := by simp [lastB, aheadB]
theorem slashes_snoc (L : List Int) (c : Int) : slashes (L ++ [c]) = slashes L + (if c = 47 then 1 else 0) := by
  simp only [slashes, List.countP_append, List.countP_cons, List.countP_nil, decide_eq_true_eq, Nat.zero_add]
def goesB (L : List Int) (c : Int) : Bool :=
  if lowB c = true then true
  else if lastB L = 47 ∨ lastB L = 46 then false
  else if lowB (lastB L) = true then decide (c = 46 ∨ c = 95 ∨ c = 45 ∨ c = 47)
  else if lastB L = 95 then decide (c = 95 ∧ aheadB L ≠ 95)
  else decide (c = 45)
def RRel (L : List Int) (q : RQ) : Prop := q.2 + slashes L = 7 ∧ match q.1 with
  | .word => lastB L = 47 ∨ lastB L = 46 ∨ (lastB L = 95 ∧ aheadB L = 95)
  | .inside => lowB (lastB L) = true
  | .second => lastB L = 95 ∧ aheadB L ≠ 95
  | .dashes => lastB L = 45
theorem rrel_nil : RRel [] (.word, 7) := ⟨rfl, .inl rfl⟩
theorem RRel.ends {L : List Int} {q : RQ} (h : RRel L q) : decide (q.1 = .inside) = lowB (lastB L) := by
  obtain ⟨k, n⟩ := q
  obtain ⟨_, h⟩ := h
  cases k <;> simp only at h
  · rcases h with h | h | ⟨h, _⟩ <;> rw [h] <;> rfl
  · rw [h]; rfl
  · rw [h.1]; rfl
  · rw [h]; rfl
theorem RRel.step {L : List Int} {q : RQ} (h : RRel L q) (c : Int) :
    (rstep q c).isSome = (goesB L c && decide (1 + slashes (L ++ [c]) ≤ 8)) ∧ ∀ q', rstep q c = some q' → RRel (L ++ [c]) q' := by
  obtain ⟨k, n⟩ := q
  obtain ⟨hn, h⟩ := h
  simp only at hn h
  have hs := slashes_snoc L c
  by_cases hl : lowB c = true
  · have hc := lowB_iff.1 hl
    have e47 : c ≠ 47 := by omega
    have hw : rstep (k, n) c = some (.inside, n) := by
      cases k <;> simp only [rstep, wstep, if_pos hl]
      · rw [if_neg (by omega), if_neg (by omega), if_neg (by omega), if_neg (by omega)]
      · rw [if_neg (by omega)]
      · rw [if_neg (by omega)]
    rw [hw]
    refine ⟨?_, ?_⟩
    · rw [hs, if_neg e47]
      simp only [goesB, if_pos hl, Option.isSome_some, Bool.true_and]
      exact (decide_eq_true (by omega)).symm
    · rintro q' he
      cases he
      refine ⟨?_, ?_⟩
      · simp only [hs, if_neg e47]; omega
      · simp only [lastB_snoc]; exact hl
  · have hw : ∀ n, wstep n c = none := fun n => by simp only [wstep, if_neg hl]
    have hnl : ∀ {x : Int}, x = 47 ∨ x = 46 ∨ x = 95 ∨ x = 45 → lowB x = false := by
      rintro x (rfl | rfl | rfl | rfl) <;> decide
    cases k
    · simp only [rstep, hw]
      refine ⟨?_, fun q' he => by cases he⟩
      have : goesB L c = false := by
        simp only [goesB, if_neg hl]
        rcases h with h | h | ⟨h, h'⟩
        · rw [if_pos (.inl h)]
        · rw [if_pos (.inr h)]
        · rw [if_neg (by omega), if_neg (by rw [hnl (.inr (.inr (.inl h)))]; simp), if_pos h]
          simp [h']
      rw [this]; rfl
    · simp only at h
      have hb : goesB L c = decide (c = 46 ∨ c = 95 ∨ c = 45 ∨ c = 47) := by
        simp only [goesB, if_neg hl]
        rw [if_neg (by
          rintro (e | e)
          · rw [hnl (.inl e)] at h; cases h
          · rw [hnl (.inr (.inl e))] at h; cases h), if_pos h]
      rw [hb]
      simp only [rstep, hw]
      by_cases e1 : c = 47
      · subst e1
        rw [if_pos rfl] at hs
        by_cases h0 : 0 < n
        · rw [if_pos ⟨rfl, h0⟩]
          refine ⟨?_, ?_⟩
          · rw [decide_eq_true (show 1 + slashes (L ++ [47]) ≤ 8 by omega)]; rfl
          · rintro q' he
            cases he
            exact ⟨by simp only [hs]; omega, by simp only [lastB_snoc]; exact .inl trivial⟩
        · rw [if_neg (by omega), if_neg (by omega), if_neg (by omega), if_neg (by omega)]
          refine ⟨?_, fun q' he => by cases he⟩
          rw [decide_eq_false (show ¬ (1 + slashes (L ++ [47]) ≤ 8) by omega), Bool.and_false]; rfl
      · rw [if_neg (by omega)]
        rw [if_neg e1] at hs
        have hd : decide (1 + slashes (L ++ [c]) ≤ 8) = true := decide_eq_true (by omega)
        rw [hd, Bool.and_true]
        by_cases e2 : c = 46
        · subst e2
          rw [if_pos rfl]
          refine ⟨rfl, ?_⟩
          rintro q' he
          cases he
          exact ⟨by simp only [hs]; omega, by simp only [lastB_snoc]; exact .inr (.inl trivial)⟩
        · rw [if_neg e2]
          by_cases e3 : c = 95
          · subst e3
            rw [if_pos rfl]
            refine ⟨rfl, ?_⟩
            rintro q' he
            cases he
            refine ⟨by simp only [hs]; omega, ?_⟩
            simp only [lastB_snoc, aheadB_snoc]
            exact ⟨trivial, fun e => by rw [e] at h; exact absurd h (by decide)⟩
          · rw [if_neg e3]
            by_cases e4 : c = 45
            · subst e4
              rw [if_pos rfl]
              refine ⟨rfl, ?_⟩
              rintro q' he
              cases he
              exact ⟨by simp only [hs]; omega, by simp only [lastB_snoc]⟩
            · rw [if_neg e4]
              exact ⟨(decide_eq_false (by omega)).symm, fun q' he => by cases he⟩
    · obtain ⟨h1, h2⟩ := h
      have hb : goesB L c = decide (c = 95 ∧ aheadB L ≠ 95) := by
        simp only [goesB, if_neg hl]
        rw [if_neg (by omega), if_neg (by rw [hnl (.inr (.inr (.inl h1)))]; simp), if_pos h1]
      rw [hb]
      simp only [rstep, hw]
      by_cases e3 : c = 95
      · subst e3
        rw [if_neg (by decide)] at hs
        rw [if_pos rfl]
        refine ⟨?_, ?_⟩
        · rw [decide_eq_true (⟨rfl, h2⟩ : (95 : Int) = 95 ∧ aheadB L ≠ 95)]
          simp; omega
        · rintro q' he
          cases he
          refine ⟨by simp only [hs]; omega, ?_⟩
          simp only [lastB_snoc, aheadB_snoc]
          exact .inr (.inr ⟨trivial, h1⟩)
      · rw [if_neg e3]
        refine ⟨?_, fun q' he => by cases he⟩
        rw [decide_eq_false (by omega)]; rfl
    · simp only at h
      have hb : goesB L c = decide (c = 45) := by
        simp only [goesB, if_neg hl]
        rw [if_neg (by omega), if_neg (by rw [hnl (.inr (.inr (.inr h)))]; simp), if_neg (by omega)]
      rw [hb]
      simp only [rstep, hw]
      by_cases e4 : c = 45
      · subst e4
        rw [if_neg (by decide)] at hs
        rw [if_pos rfl]
        refine ⟨?_, ?_⟩
        · simp; omega
        · rintro q' he
          cases he
          exact ⟨by simp only [hs]; omega, by simp only [lastB_snoc]⟩
      · rw [if_neg e4]
        refine ⟨?_, fun q' he => by cases he⟩
        rw [decide_eq_false e4]; rfl
def rfold : List Int → Option RQ := List.foldlM rstep (.word, 7)
theorem rfold_nil : rfold [] = some (.word, 7) := rfl
theorem rfold_snoc (L : List Int) (c : Int) : rfold (L ++ [c]) = (rfold L).bind (rstep · c) := by
  simp only [rfold, List.foldlM_append, List.foldlM_cons, List.foldlM_nil]
  cases L.foldlM rstep (RK.word, 7) with
  | none => rfl
  | some q => simp only [Option.bind_eq_bind, Option.bind_some]; cases rstep q c <;> rfl
theorem rfold_rel {L : List Int} {q : RQ} (h : rfold L = some q) : RRel L q := by
  have key : ∀ (n : Nat) (L : List Int) (q : RQ), L.length = n → rfold L = some q → RRel L q := by
    intro n
    induction n with
    | zero =>
      intro L q hn h
      have : L = [] := List.eq_nil_of_length_eq_zero hn
      subst this
      cases h; exact rrel_nil
    | succ n ih =>
      intro L q hn h
      rcases List.eq_nil_or_concat L with rfl | ⟨L', c, rfl⟩
      · cases hn
      rw [List.concat_eq_append] at h hn ⊢
      rw [rfold_snoc] at h
      cases hL : rfold L' with
      | none => rw [hL] at h; cases h
      | some p => rw [hL] at h; exact ((ih L' p (by simpa using hn) hL).step c).2 q h
  exact key _ L q rfl h
theorem rfold_take {L : List Int} {p k : Nat} {q : RQ} (h : rfold (L.take p) = some q) (hk : k ≤ p) : ∃ q', rfold (L.take k) = some q' := by
  rw [show p = k + (p - k) by omega, List.take_add] at h
  simp only [rfold, List.foldlM_append] at h ⊢
  cases hf : List.foldlM rstep (RK.word, 7) (L.take k) with
  | none => rw [hf] at h; cases h
  | some q' => exact ⟨q', rfl⟩
/-- Where a text is no beginning of a name any more. -/
def badAt (L : List Int) : Option Nat := (List.range L.length).find? fun p => (rfold (L.take (p + 1))).isNone
theorem rfold_take_succ {L : List Int} {p : Nat} (hp : p < L.length) : rfold (L.take (p + 1)) = (rfold (L.take p)).bind (rstep · L[p]) := by
  rw [List.take_succ_eq_append_getElem hp, rfold_snoc]
theorem badAt_some {L : List Int} {p : Nat} {q : RQ} (hp : p < L.length) (h : rfold (L.take p) = some q) (h2 : rstep q L[p] = none) : badAt L = some p := by
  unfold badAt
  rw [List.find?_range_eq_some]
  refine ⟨?_, by simpa using hp, fun k hk => ?_⟩
  · rw [rfold_take_succ hp, h]; simp [h2]
  · obtain ⟨q', hq⟩ := rfold_take h (show k + 1 ≤ p by omega)
    rw [hq]; rfl
theorem badAt_none {L : List Int} {q : RQ} (h : rfold L = some q) : badAt L = none := by
  unfold badAt
  rw [List.find?_eq_none]
  intro k hk
  have h' : rfold (L.take L.length) = some q := by rw [List.take_length]; exact h
  obtain ⟨q', hq⟩ := rfold_take h' (show k + 1 ≤ L.length by have := List.mem_range.1 hk; omega)
  rw [hq]; simp
/-- Why a text is no repository's name. -/
def repoF (L : List Int) : Int × Int := if 128 < L.length then (4, 128) else match badAt L with
  | some p => (7, p)
  | none => if lowB (lastB L) = true then (0, 0) else (7, L.length)
theorem repoF_long {L : List Int} (h : 128 < L.length) : repoF L = (4, 128) := if_pos h
theorem repoF_bad {L : List Int} {p : Nat} {q : RQ} (hl : ¬ 128 < L.length) (hp : p < L.length) (h : rfold (L.take p) = some q) (h2 : rstep q L[p] = none) : repoF L = (7, (p : Int)) := by
  unfold repoF; rw [if_neg hl, badAt_some hp h h2]
theorem repoF_end {L : List Int} {q : RQ} (hl : ¬ 128 < L.length) (h : rfold L = some q) : repoF L = if q.1 = .inside then (0, 0) else (7, (L.length : Int)) := by
  unfold repoF; rw [if_neg hl, badAt_none h]
  have := (rfold_rel h).ends
  by_cases hq : q.1 = .inside
  · rw [if_pos hq]; rw [decide_eq_true hq] at this; simp only [← this, if_true]
  · rw [if_neg hq]; rw [decide_eq_false hq] at this; simp only [← this]; rfl
theorem strI_at {s : ByteArray} {p : Nat} (hp : p < s.size) (hl : p < (strI s).length) : (strI s)[p] = ((s[p]'hp).toNat : Int) := by
  simp only [strI, List.getElem_map, Array.getElem_toList]
  rfl
/-- A rune and the byte at which it begins move the machine alike. -/
theorem rune_step {s : ByteArray} {p : Nat} (hp : p < s.size) (hl : p < (strI s).length) (q : RQ) : rstep q ((Utf8.decode s p).1 : Int) = rstep q (strI s)[p] := by
  rw [strI_at hp hl]
  by_cases h : (s[p]'hp).toNat < 128
  · rw [Go.decode_ascii s p hp h]
  · have h1 := (Go.decode_high s p hp (by omega)).1
    cases e1 : rstep q ((Utf8.decode s p).1 : Int) with
    | some q' => have := rstep_ascii e1; omega
    | none =>
      cases e2 : rstep q ((s[p]'hp).toNat : Int) with
      | some q' => have := rstep_ascii e2; omega
      | none => rfl
theorem rune_one {s : ByteArray} {p : Nat} (hp : p < s.size) (hl : p < (strI s).length) {q q' : RQ} (h : rstep q (strI s)[p] = some q') : Utf8.decode s p = ((s[p]'hp).toNat, 1) := by
  rw [strI_at hp hl] at h
  have := rstep_ascii h
  exact Go.decode_ascii s p hp (by omega)
end Go.Proofs.Ytjfileaidgknjaa
/- What is a repository's name: the program's machine. Conditions: none. -/
namespace Go.Proofs.Ytjfileaidgknjaa
open Go Go.Eng

/-- The function that a state calls. -/
def nxF : RK → Nat
  | .word => n_name_repo_word
  | .inside => n_name_repo_inside
  | .second => n_name_repo_second
  | .dashes => n_name_repo_dashes
abbrev rpV (n : Nat) : Value := .agg ⟨[.int .i64 (n : Int)]⟩
def stN (q : RQ) : List Value := [.func (.func (nxF q.1)) ⟨[rpV q.2]⟩ ⟨[]⟩, .bool (decide (q.1 = .inside))]
abbrev pN (g : Nat) (q : RQ) : SP := pt g t_name_state (stN q)
section
variable {b : World} {F : List SP}
theorem nword_S {c : Int} : SC Try.prog n_name_letter_word [.int .i32 c] b F (fun v F' => v = .bool (lowB c) ∧ F' = F) := by
  refine enterS F_name_letter_word rfl rfl rfl ?_
  (refine sw_seq ?_; refine sw_region ?_; refine so_1 rfl ?_; refine so_nil ?_; refine sn_then ?_; refine sw_seq ?_; refine sw_region ?_; (iterate 3 refine so_1 rfl ?_))
  refine so_if 5 rfl (fun h1 => ?_) (fun h1 => ?_)
  · ((iterate 4 refine so_1 rfl ?_))
    refine so_if 9 rfl (fun h2 => ?_) (fun h2 => ?_)
    · ((iterate 8 refine so_1 rfl ?_); refine so_nil ?_; refine sn_then ?_; refine sw_ret ?_)
      refine sn_ret rfl (.tmp rfl .nil) (Ent.refl _) ?_
      exact ⟨congrArg Value.bool (by rw [lowB_iff.2 (by omega)]), rfl⟩
    · ((iterate 3 refine so_1 rfl ?_))
      refine so_if 12 rfl (fun h3 => ?_) (fun h3 => ?_)
      · ((iterate 5 refine so_1 rfl ?_); refine so_nil ?_; refine sn_then ?_; refine sw_ret ?_)
        refine sn_ret rfl (.tmp rfl .nil) (Ent.refl _) ?_
        exact ⟨congrArg Value.bool (by rw [Bool.eq_iff_iff, lowB_iff]; simp only [decide_eq_true_eq, reduceCtorEq, false_iff]; omega), rfl⟩
      · omega
  · ((iterate 7 refine so_1 rfl ?_))
    refine so_if 12 rfl (fun h3 => ?_) (fun h3 => ?_)
    · ((iterate 5 refine so_1 rfl ?_); refine so_nil ?_; refine sn_then ?_; refine sw_ret ?_)
      refine sn_ret rfl (.tmp rfl .nil) (Ent.refl _) ?_
      exact ⟨congrArg Value.bool (by rw [Bool.eq_iff_iff, lowB_iff]; simp only [decide_eq_true_eq, reduceCtorEq, false_iff]; omega), rfl⟩
    · ((iterate 5 refine so_1 rfl ?_); refine so_nil ?_; refine sn_then ?_; refine sw_ret ?_)
      refine sn_ret rfl (.tmp rfl .nil) (Ent.refl _) ?_
      exact ⟨congrArg Value.bool (by rw [Bool.eq_iff_iff, lowB_iff]; simp only [decide_eq_true_eq, reduceCtorEq, false_iff]; omega), rfl⟩
theorem npart_S {n : Nat} {x : Int} (hx : x = n) : SC Try.prog n_name_repo_part [.agg ⟨[.int .i64 x]⟩] b F (fun v F' => ∃ g, v = .pointer (some ⟨g, 0, none⟩) ∧ F' = pN g (.word, n) :: F) := by
  subst hx
  refine enterS F_name_repo_part rfl rfl rfl ?_
  (refine sw_seq ?_; refine sw_region ?_)
  refine so_box rfl rfl rfl rfl rfl fun g1 => ?_
  (refine so_1 rfl ?_; refine so_nil ?_; refine sn_then ?_; refine sw_seq ?_; refine sw_region ?_; refine so_l 0 rfl rfl rfl ?_; (iterate 2 refine so_1 rfl ?_))
  refine so_box rfl rfl rfl rfl rfl fun g2 => ?_
  (refine so_1 rfl ?_; refine so_nil ?_; refine sn_then ?_; refine sw_ret ?_)
  refine sn_ret rfl (.tmp rfl .nil) (ent_keep 2 [0] rfl rfl) ?_
  exact ⟨g2, rfl, rfl⟩
/-- What a state's function tells. -/
def NxR (F : List SP) (o : Option RQ) (v : Value) (F' : List SP) : Prop := match o with
  | some q => ∃ g, v = .pointer (some ⟨g, 0, none⟩) ∧ F' = pN g q :: F
  | none => v = .pointer none ∧ F' = F
theorem nwordS_S {n : Nat} {c : Int} : SC Try.prog n_name_repo_word [rpV n, .int .i32 c] b F (NxR F (rstep (.word, n) c)) := by
  refine enterS F_name_repo_word rfl rfl rfl ?_
  (refine sw_seq ?_; refine sw_region ?_)
  refine so_box rfl rfl rfl rfl rfl fun g1 => ?_
  (refine so_1 rfl ?_; refine so_nil ?_; refine sn_then ?_; (iterate 2 refine sw_seq ?_); refine sw_region ?_; refine so_1 rfl ?_)
  refine so_callE rfl rfl rfl (nword_S) ?_
  (refine so_nil ?_; refine sn_then ?_)
  by_cases h : lowB c = true
  · simp only [h]
    (refine sw_cond_t rfl ?_; refine sw_seq ?_; refine sw_region ?_; refine so_l 0 rfl rfl rfl ?_; (iterate 2 refine so_1 rfl ?_))
    refine so_box rfl rfl rfl rfl rfl fun g2 => ?_
    (refine so_1 rfl ?_; refine so_nil ?_; refine sn_then ?_; refine sw_ret ?_; refine sn_then_ret ?_)
    refine sn_ret rfl (.tmp rfl .nil) (ent_keep 2 [0] rfl rfl) ?_
    simp only [rstep, wstep, if_pos h]
    exact ⟨g2, rfl, rfl⟩
  · have h' : lowB c = false := by simpa using h
    simp only [h']
    (refine sw_cond_f rfl ?_; refine sw_skip ?_; refine sn_then ?_; refine sw_seq ?_; refine sw_region ?_; refine so_1 rfl ?_; refine so_nil ?_; refine sn_then ?_; refine sw_ret ?_)
    refine sn_ret rfl (.tmp rfl .nil) (ent_keep 1 [] rfl rfl) ?_
    simp only [rstep, wstep, if_neg h]
    exact ⟨rfl, rfl⟩
theorem NxR.drop {A : SP} {F : List SP} {o : Option RQ} {v : Value} {F' : List SP} (h : NxR (A :: F) o v F') : ∃ G, Ent F' G ∧ NxR F o v G := by
  cases o with
  | none => obtain ⟨h1, rfl⟩ := h; exact ⟨F, ent_keep 1 [] rfl rfl, h1, rfl⟩
  | some q => obtain ⟨g, h1, rfl⟩ := h; exact ⟨pN g q :: F, ent_keep 2 [0] rfl rfl, g, h1, rfl⟩
theorem nsecond_S {n : Nat} {c : Int} : SC Try.prog n_name_repo_second [rpV n, .int .i32 c] b F (NxR F (rstep (.second, n) c)) := by
  refine enterS F_name_repo_second rfl rfl rfl ?_
  (refine sw_seq ?_; refine sw_region ?_)
  refine so_box rfl rfl rfl rfl rfl fun g1 => ?_
  (refine so_1 rfl ?_; refine so_nil ?_; refine sn_then ?_; (iterate 2 refine sw_seq ?_); refine sw_region ?_; (iterate 2 refine so_1 rfl ?_); refine so_nil ?_; refine sn_then ?_)
  refine sw_if rfl (fun h => ?_) (fun h => ?_)
  · (refine sw_seq ?_; refine sw_region ?_; refine so_l 0 rfl rfl rfl ?_; (iterate 2 refine so_1 rfl ?_))
    refine so_box rfl rfl rfl rfl rfl fun g2 => ?_
    (refine so_1 rfl ?_; refine so_nil ?_; refine sn_then ?_; refine sw_ret ?_; refine sn_then_ret ?_)
    refine sn_ret rfl (.tmp rfl .nil) (ent_keep 2 [0] rfl rfl) ?_
    simp only [rstep, if_pos h]
    exact ⟨g2, rfl, rfl⟩
  · (refine sw_skip ?_; refine sn_then ?_; refine sw_seq ?_; refine sw_region ?_; refine so_l 0 rfl rfl rfl ?_; refine so_1 rfl ?_)
    refine so_call rfl rfl rfl (nwordS_S) ?_
    rintro v F' hR
    obtain ⟨G, hG, hR'⟩ := hR.drop
    (refine so_1 rfl ?_; refine so_nil ?_; refine sn_then ?_; refine sw_ret ?_)
    refine sn_ret rfl (.tmp rfl .nil) (hG) ?_
    simp only [rstep, if_neg h]
    exact hR'
theorem ndashes_S {n : Nat} {c : Int} : SC Try.prog n_name_repo_dashes [rpV n, .int .i32 c] b F (NxR F (rstep (.dashes, n) c)) := by
  refine enterS F_name_repo_dashes rfl rfl rfl ?_
  (refine sw_seq ?_; refine sw_region ?_)
  refine so_box rfl rfl rfl rfl rfl fun g1 => ?_
  (refine so_1 rfl ?_; refine so_nil ?_; refine sn_then ?_; (iterate 2 refine sw_seq ?_); refine sw_region ?_; (iterate 2 refine so_1 rfl ?_); refine so_nil ?_; refine sn_then ?_)
  refine sw_if rfl (fun h => ?_) (fun h => ?_)
  · (refine sw_seq ?_; refine sw_region ?_; refine so_l 0 rfl rfl rfl ?_; (iterate 2 refine so_1 rfl ?_))
    refine so_box rfl rfl rfl rfl rfl fun g2 => ?_
    (refine so_1 rfl ?_; refine so_nil ?_; refine sn_then ?_; refine sw_ret ?_; refine sn_then_ret ?_)
    refine sn_ret rfl (.tmp rfl .nil) (ent_keep 2 [0] rfl rfl) ?_
    simp only [rstep, if_pos h]
    exact ⟨g2, rfl, rfl⟩
  · (refine sw_skip ?_; refine sn_then ?_; refine sw_seq ?_; refine sw_region ?_; refine so_l 0 rfl rfl rfl ?_; refine so_1 rfl ?_)
    refine so_call rfl rfl rfl (nwordS_S) ?_
    rintro v F' hR
    obtain ⟨G, hG, hR'⟩ := hR.drop
    (refine so_1 rfl ?_; refine so_nil ?_; refine sn_then ?_; refine sw_ret ?_)
    refine sn_ret rfl (.tmp rfl .nil) (hG) ?_
    simp only [rstep, if_neg h]
    exact hR'
theorem ninside_S {n : Nat} {c : Int} (h7 : n ≤ 7) : SC Try.prog n_name_repo_inside [rpV n, .int .i32 c] b F (NxR F (rstep (.inside, n) c)) := by
  refine enterS F_name_repo_inside rfl rfl rfl ?_
  (refine sw_seq ?_; refine sw_region ?_)
  refine so_box rfl rfl rfl rfl rfl fun g1 => ?_
  (refine so_1 rfl ?_; refine so_nil ?_; refine sn_then ?_; refine sw_seq ?_; refine sw_block ?_; refine sw_seq ?_; refine sw_region ?_; (iterate 3 refine so_1 rfl ?_))
  refine so_if 8 rfl (fun h1 => ?_) (fun h1 => ?_)
  · (refine so_1 rfl ?_; refine so_l 0 rfl rfl rfl ?_; (iterate 3 refine so_1 rfl ?_); refine so_nil ?_; refine sn_then ?_)
    refine sw_if rfl (fun h2 => ?_) (fun h2 => ?_)
    · (refine sw_seq ?_; refine sw_region ?_; refine so_1 rfl ?_; refine so_l 0 rfl rfl rfl ?_; refine so_2 rfl (by (unfold I64; omega)) ?_; refine so_1 rfl ?_)
      have hn : 0 < n := by omega
      refine so_call rfl rfl rfl (npart_S (n := n - 1) (by omega)) ?_
      rintro v F' ⟨g, rfl, rfl⟩
      (refine so_1 rfl ?_; refine so_nil ?_; refine sn_then ?_; refine sw_ret ?_; refine sn_block_ret ?_; refine sn_then_ret ?_)
      refine sn_ret rfl (.tmp rfl .nil) (ent_keep 2 [0] rfl rfl) ?_
      simp only [rstep, if_pos (⟨h1, hn⟩ : c = 47 ∧ 0 < n)]
      exact ⟨g, rfl, rfl⟩
    · have hn : ¬ (c = 47 ∧ 0 < n) := by omega
      (refine sw_seq ?_; refine sw_region ?_; (iterate 3 refine so_1 rfl ?_); refine so_nil ?_; refine sn_then ?_)
      refine sw_if rfl (fun h => absurd h (by omega)) (fun h3 => ?_)
      (refine sw_seq ?_; refine sw_region ?_; (iterate 3 refine so_1 rfl ?_); refine so_nil ?_; refine sn_then ?_)
      refine sw_if rfl (fun h => absurd h (by omega)) (fun h4 => ?_)
      (refine sw_seq ?_; refine sw_region ?_; (iterate 3 refine so_1 rfl ?_); refine so_nil ?_; refine sn_then ?_)
      refine sw_if rfl (fun h => absurd h (by omega)) (fun h5 => ?_)
      (refine sw_skip ?_; refine sn_block ?_; refine sn_then ?_; refine sw_seq ?_; refine sw_region ?_; refine so_l 0 rfl rfl rfl ?_; refine so_1 rfl ?_)
      refine so_call rfl rfl rfl (nwordS_S) ?_
      rintro v F' hR
      obtain ⟨G, hG, hR'⟩ := hR.drop
      (refine so_1 rfl ?_; refine so_nil ?_; refine sn_then ?_; refine sw_ret ?_)
      refine sn_ret rfl (.tmp rfl .nil) (hG) ?_
      simp only [rstep, if_neg hn, if_neg h3, if_neg h4, if_neg h5]
      exact hR'
  · have hn : ¬ (c = 47 ∧ 0 < n) := by omega
    ((iterate 5 refine so_1 rfl ?_); refine so_nil ?_; refine sn_then ?_; refine sw_cond_f rfl ?_; refine sw_seq ?_; refine sw_region ?_; (iterate 3 refine so_1 rfl ?_); refine so_nil ?_; refine sn_then ?_)
    refine sw_if rfl (fun h3 => ?_) (fun h3 => ?_)
    · (refine sw_seq ?_; refine sw_region ?_; refine so_l 0 rfl rfl rfl ?_; (iterate 2 refine so_1 rfl ?_))
      refine so_box rfl rfl rfl rfl rfl fun g2 => ?_
      (refine so_1 rfl ?_; refine so_nil ?_; refine sn_then ?_; refine sw_ret ?_; refine sn_block_ret ?_; refine sn_then_ret ?_)
      refine sn_ret rfl (.tmp rfl .nil) (ent_keep 2 [0] rfl rfl) ?_
      simp only [rstep, if_neg hn, if_pos h3]
      exact ⟨g2, rfl, rfl⟩
    (refine sw_seq ?_; refine sw_region ?_; (iterate 3 refine so_1 rfl ?_); refine so_nil ?_; refine sn_then ?_)
    refine sw_if rfl (fun h4 => ?_) (fun h4 => ?_)
    · (refine sw_seq ?_; refine sw_region ?_; refine so_l 0 rfl rfl rfl ?_; (iterate 2 refine so_1 rfl ?_))
      refine so_box rfl rfl rfl rfl rfl fun g2 => ?_
      (refine so_1 rfl ?_; refine so_nil ?_; refine sn_then ?_; refine sw_ret ?_; refine sn_block_ret ?_; refine sn_then_ret ?_)
      refine sn_ret rfl (.tmp rfl .nil) (ent_keep 2 [0] rfl rfl) ?_
      simp only [rstep, if_neg hn, if_neg h3, if_pos h4]
      exact ⟨g2, rfl, rfl⟩
    (refine sw_seq ?_; refine sw_region ?_; (iterate 3 refine so_1 rfl ?_); refine so_nil ?_; refine sn_then ?_)
    refine sw_if rfl (fun h5 => ?_) (fun h5 => ?_)
    · (refine sw_seq ?_; refine sw_region ?_; refine so_l 0 rfl rfl rfl ?_; (iterate 2 refine so_1 rfl ?_))
      refine so_box rfl rfl rfl rfl rfl fun g2 => ?_
      (refine so_1 rfl ?_; refine so_nil ?_; refine sn_then ?_; refine sw_ret ?_; refine sn_block_ret ?_; refine sn_then_ret ?_)
      refine sn_ret rfl (.tmp rfl .nil) (ent_keep 2 [0] rfl rfl) ?_
      simp only [rstep, if_neg hn, if_neg h3, if_neg h4, if_pos h5]
      exact ⟨g2, rfl, rfl⟩
    (refine sw_skip ?_; refine sn_block ?_; refine sn_then ?_; refine sw_seq ?_; refine sw_region ?_; refine so_l 0 rfl rfl rfl ?_; refine so_1 rfl ?_)
    refine so_call rfl rfl rfl (nwordS_S) ?_
    rintro v F' hR
    obtain ⟨G, hG, hR'⟩ := hR.drop
    (refine so_1 rfl ?_; refine so_nil ?_; refine sn_then ?_; refine sw_ret ?_)
    refine sn_ret rfl (.tmp rfl .nil) (hG) ?_
    simp only [rstep, if_neg hn, if_neg h3, if_neg h4, if_neg h5]
    exact hR'
theorem nx_S {q : RQ} {c : Int} (h7 : q.2 ≤ 7) : SC Try.prog (nxF q.1) [rpV q.2, .int .i32 c] b F (NxR F (rstep q c)) := by
  obtain ⟨k, n⟩ := q
  cases k
  · exact nwordS_S
  · exact ninside_S h7
  · exact nsecond_S
  · exact ndashes_S
instance nx_bodied (q : RQ) : Bodied Try.prog (nxF q.1) := by
  obtain ⟨k, n⟩ := q
  cases k <;> (dsimp only [nxF]; infer_instance)
end
end Go.Proofs.Ytjfileaidgknjaa
/- What is a repository's name: Repo. Conditions: none. -/
namespace Go.Proofs.Ytjfileaidgknjaa
open Go Go.Eng

/-- A fault. -/
abbrev ftV (f : Int × Int) : Value := .agg ⟨[.int .i64 f.1, .int .i64 f.2]⟩
section
variable {b : World} {F : List SP}
theorem nrun_S {s : ByteArray} {g : Nat} (hl : ¬ 128 < (strI s).length) : SC Try.prog n_name_run [.string s, .pointer (some ⟨g, 0, none⟩), .int .i64 7] b (pN g (.word, 7) :: F) (fun v F' => v = ftV (repoF (strI s)) ∧ F' = F) := by
  have hsz := strI_length s
  refine enterS F_name_run rfl rfl rfl ?_
  (refine sw_seq ?_; refine sw_region ?_)
  refine so_new rfl rfl rfl rfl rfl fun g6 => ?_
  (refine so_nil ?_; refine sn_then ?_; (iterate 2 refine sw_seq ?_); refine sw_region ?_; refine so_1 rfl ?_)
  refine so_rangeS rfl rfl rfl rfl rfl rfl fun gi => ?_
  (refine so_nil ?_; refine sn_then ?_; refine sw_block ?_)
  refine sw_loop (S := Nat × RQ × Nat) (fun s' => [(0, .string s), (1, .pointer (some ⟨s'.2.2, 0, none⟩)), (2, .int .i64 7), (6, .pointer (some ⟨g6, 0, none⟩)), (10, .pointer (some ⟨gi, 0, none⟩))]) (fun s' => ob gi (.stringIter s s'.1) :: pN s'.2.2 s'.2.1 :: pt g6 t_api_Fault [.int .i64 0, .int .i64 0] :: F)
    (fun s' => s'.1 ≤ s.size ∧ rfold ((strI s).take s'.1) = some s'.2.1) (fun s' => s.size - s'.1) (0, (.word, 7), g) ⟨rfl, rfl, rfl, rfl, rfl, trivial⟩ (ent_keep 3 [0, 2, 1] rfl rfl) ⟨Nat.zero_le _, rfl⟩ ?_
  rintro ⟨p, q, gq⟩ ⟨hp, hq⟩
  dsimp only at hp hq ⊢
  (refine sw_seq ?_; refine sw_region ?_)
  by_cases hlt : p < s.size
  · have hpl : p < (strI s).length := by omega
    have h7 : q.2 ≤ 7 := by have := (rfold_rel hq).1; omega
    have hstep := rune_step hlt hpl q
    refine so_nextS 0 rfl rfl rfl rfl rfl hlt rfl ?_
    (refine so_1 rfl ?_; refine so_nil ?_; refine sn_then ?_; refine sw_seq ?_; refine sw_cond_t rfl ?_; refine sw_skip ?_; refine sn_then ?_; refine sw_block ?_; refine sw_seq ?_; refine sw_region ?_; (iterate 4 refine so_1 rfl ?_); refine so_nil ?_; refine sn_then ?_; refine sw_seq ?_; refine sw_region ?_; (iterate 3 refine so_1 rfl ?_); refine so_l 1 rfl rfl rfl ?_; refine so_1 rfl ?_)
    refine so_call rfl rfl rfl (nx_S h7) ?_
    rintro v F' hR
    rw [hstep] at hR
    cases hr : rstep q (strI s)[p] with
    | none =>
      rw [hr] at hR
      obtain ⟨rfl, rfl⟩ := hR
      (refine so_1 rfl ?_; refine so_nil ?_; refine sn_then ?_; refine sw_seq ?_; refine sw_region ?_; (iterate 2 refine so_1 rfl ?_); refine so_nil ?_; refine sn_then ?_; refine sw_cond_t rfl ?_; refine sw_seq ?_; refine sw_region ?_; (iterate 3 refine so_1 rfl ?_); refine so_s1 2 rfl rfl rfl rfl ?_; refine so_nil ?_; refine sn_then ?_; refine sw_ret ?_; refine sn_block_ret ?_; refine sn_loop_ret ?_; refine sn_block_ret ?_; refine sn_then_ret ?_)
      refine sn_ret rfl (.agg 2 rfl rfl rfl rfl rfl .nil) (ent_keep 3 [] rfl rfl) ?_
      exact ⟨by rw [repoF_bad hl hpl hq hr]; rfl, rfl⟩
    | some q' =>
      rw [hr] at hR
      obtain ⟨g', rfl, rfl⟩ := hR
      have h1 := rune_one hlt hpl hr
      (refine so_1 rfl ?_; refine so_nil ?_; refine sn_then ?_; refine sw_seq ?_; refine sw_region ?_; (iterate 2 refine so_1 rfl ?_); refine so_nil ?_; refine sn_then ?_; refine sw_cond_f rfl ?_; refine sw_skip ?_; refine sn_block ?_)
      refine sn_round (p + 1, q', g') ⟨rfl, rfl, rfl, rfl, rfl, trivial⟩ ?_ ⟨hlt, ?_⟩ (by dsimp only; omega)
      · rw [h1]
        exact ent_keep 4 [1, 0, 3] rfl rfl
      · rw [rfold_take_succ hpl, hq]; exact hr
  · refine so_nextSE 0 rfl rfl rfl rfl rfl (by omega) ?_
    have hq' : rfold (strI s) = some q := by rw [← hq, List.take_of_length_le (by omega)]
    have he := repoF_end hl hq'
    (refine so_1 rfl ?_; refine so_nil ?_; refine sn_then ?_; refine sw_seq ?_; refine sw_cond_f rfl ?_; refine sw_exit ?_; refine sn_then_exit ?_; refine sn_loop_exit ?_; refine sn_block_exit ?_; refine sn_then ?_; (iterate 2 refine sw_seq ?_); refine sw_region ?_; (iterate 3 refine so_1 rfl ?_); refine so_l 1 rfl rfl rfl ?_; refine so_1 rfl ?_; refine so_nil ?_; refine sn_then ?_)
    by_cases hin : q.1 = .inside
    · refine sw_know 30 (.bool false) rfl (by simp [hin]) ?_
      (refine sw_cond_f rfl ?_; refine sw_skip ?_; refine sn_then ?_; refine sw_seq ?_; refine sw_region ?_; refine so_1 rfl ?_; refine so_s1 2 rfl rfl rfl rfl ?_; refine so_nil ?_; refine sn_then ?_; refine sw_ret ?_)
      refine sn_ret rfl (.agg 2 rfl rfl rfl rfl rfl .nil) (ent_keep 3 [] rfl rfl) ?_
      exact ⟨by rw [he, if_pos hin]; rfl, rfl⟩
    · refine sw_know 30 (.bool true) rfl (by simp [hin]) ?_
      (refine sw_cond_t rfl ?_; refine sw_seq ?_; refine sw_region ?_; (iterate 4 refine so_1 rfl ?_); refine so_s1 2 rfl rfl rfl rfl ?_; refine so_nil ?_; refine sn_then ?_; refine sw_ret ?_; refine sn_then_ret ?_)
      refine sn_ret rfl (.agg 2 rfl rfl rfl rfl rfl .nil) (ent_keep 3 [] rfl rfl) ?_
      exact ⟨by rw [he, if_neg hin, hsz]; rfl, rfl⟩
theorem nlong_S {s : ByteArray} {m : Int} : SC Try.prog n_name_long [.string s, .int .i64 m] b F (fun v F' => (if m < s.size then v = .tuple ⟨[ftV (4, m), .bool true]⟩ else v = .tuple ⟨[ftV (0, 0), .bool false]⟩) ∧ F' = F) := by
  refine enterS F_name_long rfl rfl rfl ?_
  (refine sw_seq ?_; refine sw_region ?_)
  refine so_new rfl rfl rfl rfl rfl fun g4 => ?_
  (refine so_1 rfl ?_; refine so_nil ?_; refine sn_then ?_; (iterate 2 refine sw_seq ?_); refine sw_region ?_; (iterate 4 refine so_1 rfl ?_); refine so_nil ?_; refine sn_then ?_)
  refine sw_if rfl (fun h => ?_) (fun h => ?_)
  · (refine sw_seq ?_; refine sw_region ?_; (iterate 2 refine so_1 rfl ?_); refine so_s1 0 rfl rfl rfl rfl ?_; refine so_1 rfl ?_; refine so_nil ?_; refine sn_then ?_; refine sw_ret ?_; refine sn_then_ret ?_)
    refine sn_ret rfl (.agg 0 rfl rfl rfl rfl rfl (.tmp rfl .nil)) (ent_keep 1 [] rfl rfl) ?_
    exact ⟨by rw [if_pos (by omega)]; rfl, rfl⟩
  · (refine sw_skip ?_; refine sn_then ?_; refine sw_seq ?_; refine sw_region ?_; refine so_1 rfl ?_; refine so_s1 0 rfl rfl rfl rfl ?_; refine so_1 rfl ?_; refine so_nil ?_; refine sn_then ?_; refine sw_ret ?_)
    refine sn_ret rfl (.agg 0 rfl rfl rfl rfl rfl (.tmp rfl .nil)) (ent_keep 1 [] rfl rfl) ?_
    exact ⟨by rw [if_neg (by omega)]; rfl, rfl⟩
theorem Repo_S {s : ByteArray} : SC Try.prog n_name_Repo [.string s] b F (fun v F' => v = ftV (repoF (strI s)) ∧ F' = F) := by
  have hsz := strI_length s
  refine enterS F_name_Repo rfl rfl rfl ?_
  (refine sw_seq ?_; refine sw_region ?_)
  refine so_new rfl rfl rfl rfl rfl fun g2 => ?_
  (refine so_nil ?_; refine sn_then ?_; (iterate 2 refine sw_seq ?_); refine sw_region ?_; refine so_1 rfl ?_)
  refine so_call rfl rfl rfl (nlong_S) ?_
  rintro v F' ⟨hv, rfl⟩
  by_cases h : (128 : Int) < s.size
  · rw [if_pos h] at hv
    subst hv
    ((iterate 3 refine so_1 rfl ?_))
    refine so_new rfl rfl rfl rfl rfl fun g3 => ?_
    (refine so_s1 0 rfl rfl rfl rfl ?_; refine so_1 rfl ?_; refine so_nil ?_; refine sn_then ?_; refine sw_seq ?_; refine sw_region ?_; refine so_1 rfl ?_; refine so_nil ?_; refine sn_then ?_; refine sw_cond_t rfl ?_; refine sw_seq ?_; refine sw_region ?_; refine so_l 0 rfl rfl rfl ?_; refine so_s1 1 rfl rfl rfl rfl ?_; refine so_nil ?_; refine sn_then ?_; refine sw_ret ?_; refine sn_then_ret ?_)
    refine sn_ret rfl (.agg 1 rfl rfl rfl rfl rfl .nil) (ent_keep 2 [] rfl rfl) ?_
    exact ⟨by rw [repoF_long (by omega)]; rfl, rfl⟩
  · rw [if_neg h] at hv
    subst hv
    ((iterate 3 refine so_1 rfl ?_))
    refine so_new rfl rfl rfl rfl rfl fun g3 => ?_
    (refine so_s1 0 rfl rfl rfl rfl ?_; refine so_1 rfl ?_; refine so_nil ?_; refine sn_then ?_; refine sw_seq ?_; refine sw_region ?_; refine so_1 rfl ?_; refine so_nil ?_; refine sn_then ?_; refine sw_cond_f rfl ?_; refine sw_skip ?_; refine sn_then ?_; refine sw_seq ?_; refine sw_region ?_; (iterate 2 refine so_1 rfl ?_))
    refine so_call rfl rfl rfl (npart_S (n := 7) rfl) ?_
    rintro v F' ⟨g, rfl, rfl⟩
    skip
    refine so_call rfl rfl rfl (nrun_S (by omega)) ?_
    rintro v F' ⟨rfl, rfl⟩
    (refine so_s1 1 rfl rfl rfl rfl ?_; refine so_nil ?_; refine sn_then ?_; refine sw_ret ?_)
    refine sn_ret rfl (.agg 1 rfl rfl rfl rfl rfl .nil) (ent_keep 2 [] rfl rfl) ?_
    exact ⟨rfl, rfl⟩
end
end Go.Proofs.Ytjfileaidgknjaa
/- What is a repository's name: the document's answer. Conditions: none. -/
namespace Go.Proofs.Ytjfileaidgknjaa
open Go Go.Eng

section
variable {b : World} {F : List SP}
theorem rlow_S {c : Int} : SC Try.prog n_entrepotref03_low [.int .i32 c] b F (fun v F' => v = .bool (lowB c) ∧ F' = F) := by
  refine enterS F_entrepotref03_low rfl rfl rfl ?_
  (refine sw_seq ?_; refine sw_region ?_; refine so_1 rfl ?_; refine so_nil ?_; refine sn_then ?_; refine sw_seq ?_; refine sw_region ?_; (iterate 3 refine so_1 rfl ?_))
  refine so_if 5 rfl (fun h1 => ?_) (fun h1 => ?_)
  · ((iterate 4 refine so_1 rfl ?_))
    refine so_if 9 rfl (fun h2 => ?_) (fun h2 => ?_)
    · ((iterate 8 refine so_1 rfl ?_); refine so_nil ?_; refine sn_then ?_; refine sw_ret ?_)
      refine sn_ret rfl (.tmp rfl .nil) (Ent.refl _) ?_
      exact ⟨congrArg Value.bool (by rw [lowB_iff.2 (by omega)]), rfl⟩
    · ((iterate 3 refine so_1 rfl ?_))
      refine so_if 12 rfl (fun h3 => ?_) (fun h3 => ?_)
      · ((iterate 5 refine so_1 rfl ?_); refine so_nil ?_; refine sn_then ?_; refine sw_ret ?_)
        refine sn_ret rfl (.tmp rfl .nil) (Ent.refl _) ?_
        exact ⟨congrArg Value.bool (by rw [Bool.eq_iff_iff, lowB_iff]; simp only [decide_eq_true_eq, reduceCtorEq, false_iff]; omega), rfl⟩
      · omega
  · ((iterate 7 refine so_1 rfl ?_))
    refine so_if 12 rfl (fun h3 => ?_) (fun h3 => ?_)
    · ((iterate 5 refine so_1 rfl ?_); refine so_nil ?_; refine sn_then ?_; refine sw_ret ?_)
      refine sn_ret rfl (.tmp rfl .nil) (Ent.refl _) ?_
      exact ⟨congrArg Value.bool (by rw [Bool.eq_iff_iff, lowB_iff]; simp only [decide_eq_true_eq, reduceCtorEq, false_iff]; omega), rfl⟩
    · ((iterate 5 refine so_1 rfl ?_); refine so_nil ?_; refine sn_then ?_; refine sw_ret ?_)
      refine sn_ret rfl (.tmp rfl .nil) (Ent.refl _) ?_
      exact ⟨congrArg Value.bool (by rw [Bool.eq_iff_iff, lowB_iff]; simp only [decide_eq_true_eq, reduceCtorEq, false_iff]; omega), rfl⟩
theorem rends_S {e n : Int} : SC Try.prog n_entrepotref03_ends [.int .i64 e, .int .i64 n] b F (fun v F' => v = ftV (e, n) ∧ F' = F) := by
  refine enterS F_entrepotref03_ends rfl rfl rfl ?_
  (refine sw_seq ?_; refine sw_region ?_)
  refine so_new rfl rfl rfl rfl rfl fun g4 => ?_
  (refine so_nil ?_; refine sn_then ?_; refine sw_seq ?_; refine sw_region ?_; (iterate 3 refine so_1 rfl ?_); refine so_s1 0 rfl rfl rfl rfl ?_; refine so_nil ?_; refine sn_then ?_; refine sw_ret ?_)
  refine sn_ret rfl (.agg 0 rfl rfl rfl rfl rfl .nil) (ent_keep 1 [] rfl rfl) ?_
  exact ⟨rfl, rfl⟩
theorem lastB_at {x : ByteArray} (h : 0 < x.size) : ((x.data.toList.getD (x.size - 1) 0).toNat : Int) = lastB (strI x) := by
  have hl := strI_length x
  have h2 : x.data.toList.length = x.size := by rw [Array.length_toList]; rfl
  rw [lastB, List.getLast?_eq_getElem?, List.getElem?_eq_getElem (by omega), Option.getD_some]
  simp only [strI, List.getElem_map, List.length_map, h2, List.getD_eq_getElem?_getD]
  rw [List.getElem?_eq_getElem (by omega)]; rfl
theorem aheadB_at {x : ByteArray} (h : 1 < x.size) : ((x.data.toList.getD (x.size - 2) 0).toNat : Int) = aheadB (strI x) := by
  have hl := strI_length x
  have h2 : x.data.toList.length = x.size := by rw [Array.length_toList]; rfl
  have hd : (strI x).dropLast.length = x.size - 1 := by rw [List.length_dropLast, hl]
  rw [aheadB, List.getLast?_eq_getElem?, List.getElem?_eq_getElem (by omega), Option.getD_some]
  have h3 : (strI x)[x.size - 2]'(by omega) = (x.data.toList[x.size - 2]'(by omega)).toNat := by simp only [strI, List.getElem_map]
  rw [List.getElem_dropLast, List.getD_eq_getElem?_getD, List.getElem?_eq_getElem (by omega), Option.getD_some, ← h3]
  congr 1; omega
theorem lastB_empty {x : ByteArray} (h : x.size = 0) : lastB (strI x) = 47 := by
  have : strI x = [] := List.eq_nil_of_length_eq_zero (by rw [strI_length, h])
  rw [this]; rfl
theorem aheadB_short {x : ByteArray} (h : x.size ≤ 1) : aheadB (strI x) = 47 := by
  have : (strI x).dropLast = [] := List.eq_nil_of_length_eq_zero (by rw [List.length_dropLast, strI_length]; omega)
  rw [aheadB, this]; rfl
theorem lastB_byte {x : ByteArray} : 0 ≤ lastB (strI x) ∧ lastB (strI x) < 256 := by
  rcases Nat.eq_zero_or_pos x.size with h | h
  · rw [lastB_empty h]; omega
  · rw [← lastB_at h]
    have := (x.data.toList.getD (x.size - 1) 0).toNat_lt
    omega
theorem wrap32 : ∀ c : Fin 256, IntKind.i32.wrap (c.val : Int) = (c.val : Int) := by decide +kernel
theorem wrap32' {c : Int} (h : 0 ≤ c ∧ c < 256) : IntKind.i32.wrap c = c := by
  have := wrap32 ⟨c.toNat, by omega⟩
  simpa [Int.toNat_of_nonneg h.1] using this
theorem rgoes_S {x : ByteArray} {c : Int} (hx : x.size ≤ 1000) : SC Try.prog n_entrepotref03_goes [.string x, .int .i32 c] b F (fun v F' => v = .bool (goesB (strI x) c) ∧ F' = F) := by
  refine enterS F_entrepotref03_goes rfl rfl rfl ?_
  (refine sw_seq ?_; refine sw_region ?_)
  (refine so_1 rfl ?_)
  refine so_nil (sn_then ?_)
  (refine sw_seq ?_; refine sw_region ?_)
  ((iterate 3 refine so_1 rfl ?_))
  refine so_nil (sn_then ?_)
  (refine sw_seq ?_; refine sw_region ?_)
  ((iterate 2 refine so_1 rfl ?_))
  refine so_nil (sn_then ?_)
  refine sw_mid (S := Unit) (fun _ => [(0, .string x), (1, .int .i32 c), (5, .int .i64 x.size), (6, .int .u8 (lastB (strI x))), (7, .int .u8 47)]) (fun _ => F) (fun _ => True) ?_ ?_
  · (refine sw_seq ?_; refine sw_region ?_; (iterate 2 refine so_1 rfl ?_); refine so_nil ?_; refine sn_then ?_)
    refine sw_if rfl (fun h => ?_) (fun h => ?_)
    · (refine sw_region ?_; (iterate 2 refine so_1 rfl ?_); refine so_2 rfl (by (unfold I64; omega)) ?_; refine so_2 rfl (by omega) ?_; refine so_1 rfl ?_; refine so_nil ?_)
      have e1 : ((x.data.toList.getD ((x.size : Int) - 1).toNat 0).toNat : Int) = lastB (strI x) := by
        rw [show ((x.size : Int) - 1).toNat = x.size - 1 by omega]; exact lastB_at (by omega)
      exact sn_mid () ⟨rfl, rfl, rfl, congrArg (fun v => some (Value.int .u8 v)) e1, rfl, trivial⟩ (Ent.refl _) trivial
    · (refine sw_skip ?_)
      exact sn_mid () ⟨rfl, rfl, rfl, congrArg (fun v => some (Value.int .u8 v)) (lastB_empty (x := x) (by omega)).symm, rfl, trivial⟩ (Ent.refl _) trivial
  rintro ⟨⟩ _
  refine sw_mid (S := Unit) (fun _ => [(0, .string x), (1, .int .i32 c), (6, .int .u8 (lastB (strI x))), (7, .int .u8 (aheadB (strI x)))]) (fun _ => F) (fun _ => True) ?_ ?_
  · (refine sw_seq ?_; refine sw_region ?_; (iterate 2 refine so_1 rfl ?_); refine so_nil ?_; refine sn_then ?_)
    refine sw_if rfl (fun h => ?_) (fun h => ?_)
    · (refine sw_region ?_; (iterate 2 refine so_1 rfl ?_); refine so_2 rfl (by (unfold I64; omega)) ?_; refine so_2 rfl (by omega) ?_; refine so_1 rfl ?_; refine so_nil ?_)
      have e1 : ((x.data.toList.getD ((x.size : Int) - 2).toNat 0).toNat : Int) = aheadB (strI x) := by
        rw [show ((x.size : Int) - 2).toNat = x.size - 2 by omega]; exact aheadB_at (by omega)
      exact sn_mid () ⟨rfl, rfl, rfl, congrArg (fun v => some (Value.int .u8 v)) e1, trivial⟩ (Ent.refl _) trivial
    · (refine sw_skip ?_)
      exact sn_mid () ⟨rfl, rfl, rfl, congrArg (fun v => some (Value.int .u8 v)) (aheadB_short (x := x) (by omega)).symm, trivial⟩ (Ent.refl _) trivial
  rintro ⟨⟩ _
  generalize hla : lastB (strI x) = la
  generalize hah : aheadB (strI x) = ah
  have hg : goesB (strI x) c = if lowB c = true then true else if la = 47 ∨ la = 46 then false else if lowB la = true then decide (c = 46 ∨ c = 95 ∨ c = 45 ∨ c = 47) else if la = 95 then decide (c = 95 ∧ ah ≠ 95) else decide (c = 45) := by rw [← hla, ← hah]; rfl
  have hla8 : 0 ≤ la ∧ la < 256 := hla ▸ lastB_byte
  (refine sw_seq ?_; refine sw_block ?_; refine sw_seq ?_; refine sw_region ?_; refine so_1 rfl ?_)
  refine so_callE rfl rfl rfl (rlow_S) ?_
  (refine so_1 rfl ?_; refine so_nil ?_; refine sn_then ?_)
  by_cases h : lowB c = true
  · rw [if_pos h] at hg
    simp only [h]
    (refine sw_cond_t rfl ?_; refine sw_seq ?_; refine sw_region ?_; refine so_1 rfl ?_; refine so_nil ?_; refine sn_then ?_; refine sw_ret ?_; refine sn_block_ret ?_; refine sn_then_ret ?_)
    refine sn_ret rfl (.tmp rfl .nil) (Ent.refl _) ?_
    exact ⟨congrArg Value.bool hg.symm, rfl⟩
  rw [if_neg h] at hg
  have h' : lowB c = false := by simpa using h
  simp only [h']
  (refine sw_cond_f rfl ?_; refine sw_seq ?_; refine sw_region ?_; (iterate 3 refine so_1 rfl ?_))
  refine so_if 28 rfl (fun h1 => ?_) (fun h1 => ?_)
  · ((iterate 4 refine so_1 rfl ?_); refine so_nil ?_; refine sn_then ?_; refine sw_cond_t rfl ?_; refine sw_seq ?_; refine sw_region ?_; refine so_1 rfl ?_; refine so_nil ?_; refine sn_then ?_; refine sw_ret ?_; refine sn_block_ret ?_; refine sn_then_ret ?_)
    refine sn_ret rfl (.tmp rfl .nil) (Ent.refl _) ?_
    exact ⟨congrArg Value.bool (by rw [hg, if_pos (.inl h1)]), rfl⟩
  ((iterate 4 refine so_1 rfl ?_); refine so_nil ?_; refine sn_then ?_)
  refine sw_if rfl (fun h2 => ?_) (fun h2 => ?_)
  · (refine sw_seq ?_; refine sw_region ?_; refine so_1 rfl ?_; refine so_nil ?_; refine sn_then ?_; refine sw_ret ?_; refine sn_block_ret ?_; refine sn_then_ret ?_)
    refine sn_ret rfl (.tmp rfl .nil) (Ent.refl _) ?_
    exact ⟨congrArg Value.bool (by rw [hg, if_pos (.inr h2)]), rfl⟩
  rw [if_neg (by omega)] at hg
  (refine sw_seq ?_; refine sw_region ?_; (iterate 2 refine so_1 rfl ?_))
  refine so_know 34 (.int .i32 la) rfl (congrArg (Value.int .i32) (wrap32' hla8)) ?_
  refine so_callE rfl rfl rfl (rlow_S) ?_
  (refine so_1 rfl ?_; refine so_nil ?_; refine sn_then ?_)
  by_cases h3 : lowB la = true
  · rw [if_pos h3] at hg
    simp only [h3]
    (refine sw_cond_t rfl ?_; refine sw_seq ?_; refine sw_region ?_; (iterate 3 refine so_1 rfl ?_))
    refine so_if 38 rfl (fun h4 => ?_) (fun h4 => ?_)
    · ((iterate 12 refine so_1 rfl ?_); refine so_nil ?_; refine sn_then ?_; refine sw_ret ?_; refine sn_block_ret ?_; refine sn_then_ret ?_)
      refine sn_ret rfl (.tmp rfl .nil) (Ent.refl _) ?_
      exact ⟨congrArg Value.bool (by rw [hg]; exact (decide_eq_true (.inl h4)).symm), rfl⟩
    ((iterate 4 refine so_1 rfl ?_))
    refine so_if 42 rfl (fun h5 => ?_) (fun h5 => ?_)
    · ((iterate 8 refine so_1 rfl ?_); refine so_nil ?_; refine sn_then ?_; refine sw_ret ?_; refine sn_block_ret ?_; refine sn_then_ret ?_)
      refine sn_ret rfl (.tmp rfl .nil) (Ent.refl _) ?_
      exact ⟨congrArg Value.bool (by rw [hg]; exact (decide_eq_true (.inr (.inl h5))).symm), rfl⟩
    ((iterate 4 refine so_1 rfl ?_))
    refine so_if 46 rfl (fun h6 => ?_) (fun h6 => ?_)
    · ((iterate 4 refine so_1 rfl ?_); refine so_nil ?_; refine sn_then ?_; refine sw_ret ?_; refine sn_block_ret ?_; refine sn_then_ret ?_)
      refine sn_ret rfl (.tmp rfl .nil) (Ent.refl _) ?_
      exact ⟨congrArg Value.bool (by rw [hg]; exact (decide_eq_true (.inr (.inr (.inl h6)))).symm), rfl⟩
    ((iterate 4 refine so_1 rfl ?_); refine so_nil ?_; refine sn_then ?_; refine sw_ret ?_; refine sn_block_ret ?_; refine sn_then_ret ?_)
    refine sn_ret rfl (.tmp rfl .nil) (Ent.refl _) ?_
    exact ⟨congrArg Value.bool (by rw [hg]; exact decide_eq_decide.2 ⟨fun h => .inr (.inr (.inr h)), fun h => by omega⟩), rfl⟩
  rw [if_neg h3] at hg
  have h3' : lowB la = false := by simpa using h3
  simp only [h3']
  (refine sw_cond_f rfl ?_; refine sw_seq ?_; refine sw_region ?_; (iterate 3 refine so_1 rfl ?_); refine so_nil ?_; refine sn_then ?_)
  refine sw_if rfl (fun h4 => ?_) (fun h4 => ?_)
  · rw [if_pos h4] at hg
    (refine sw_seq ?_; refine sw_region ?_; (iterate 3 refine so_1 rfl ?_))
    refine so_if 55 rfl (fun h5 => ?_) (fun h5 => ?_)
    · ((iterate 4 refine so_1 rfl ?_); refine so_nil ?_; refine sn_then ?_; refine sw_ret ?_; refine sn_block_ret ?_; refine sn_then_ret ?_)
      refine sn_ret rfl (.tmp rfl .nil) (Ent.refl _) ?_
      exact ⟨congrArg Value.bool (by rw [hg, Bool.eq_iff_iff]; simp [h5]), rfl⟩
    · ((iterate 4 refine so_1 rfl ?_); refine so_nil ?_; refine sn_then ?_; refine sw_ret ?_; refine sn_block_ret ?_; refine sn_then_ret ?_)
      refine sn_ret rfl (.tmp rfl .nil) (Ent.refl _) ?_
      exact ⟨congrArg Value.bool (by rw [hg, Bool.eq_iff_iff]; simp [h5]), rfl⟩
  rw [if_neg h4] at hg
  (refine sw_skip ?_; refine sn_block ?_; refine sn_then ?_; refine sw_seq ?_; refine sw_region ?_; (iterate 3 refine so_1 rfl ?_); refine so_nil ?_; refine sn_then ?_; refine sw_ret ?_)
  refine sn_ret rfl (.tmp rfl .nil) (Ent.refl _) ?_
  exact ⟨congrArg Value.bool hg.symm, rfl⟩
theorem strI_extract {s : ByteArray} {p : Nat} (hp : p ≤ s.size) : strI (s.extract 0 p) = (strI s).take p := by
  simp only [strI, ByteArray.data_extract, Array.toList_extract, List.extract_eq_take_drop, List.drop_zero, Nat.sub_zero, List.map_take]
theorem rRepo_S {s : ByteArray} : SC Try.prog n_entrepotref03_Repo [.string s] b F (fun v F' => v = ftV (repoF (strI s)) ∧ F' = F) := by
  have hsz := strI_length s
  refine enterS F_entrepotref03_Repo rfl rfl rfl ?_
  (refine sw_seq ?_; refine sw_region ?_)
  refine so_new rfl rfl rfl rfl rfl fun g2 => ?_
  (refine so_nil ?_; refine sn_then ?_; (iterate 2 refine sw_seq ?_); refine sw_region ?_; (iterate 3 refine so_1 rfl ?_); refine so_nil ?_; refine sn_then ?_)
  refine sw_if rfl (fun h => ?_) (fun h => ?_)
  · (refine sw_seq ?_; refine sw_region ?_)
    refine so_call rfl rfl rfl (rends_S) ?_
    rintro v F' ⟨rfl, rfl⟩
    (refine so_s1 0 rfl rfl rfl rfl ?_; refine so_nil ?_; refine sn_then ?_; refine sw_ret ?_; refine sn_then_ret ?_)
    refine sn_ret rfl (.agg 0 rfl rfl rfl rfl rfl .nil) (ent_keep 1 [] rfl rfl) ?_
    exact ⟨by rw [repoF_long (by omega)]; rfl, rfl⟩
  have hl : ¬ 128 < (strI s).length := by omega
  (refine sw_skip ?_; refine sn_then ?_; refine sw_seq ?_; refine sw_region ?_; refine so_1 rfl ?_; refine so_nil ?_; refine sn_then ?_; (iterate 2 refine sw_seq ?_); refine sw_region ?_; refine so_1 rfl ?_)
  refine so_rangeS rfl rfl rfl rfl rfl rfl fun gi => ?_
  (refine so_nil ?_; refine sn_then ?_; refine sw_block ?_)
  refine sw_loop (S := Nat × RQ) (fun s' => [(0, .string s), (2, .pointer (some ⟨g2, 0, none⟩)), (3, .int .i64 (1 + slashes ((strI s).take s'.1) : Nat)), (11, .pointer (some ⟨gi, 0, none⟩))]) (fun s' => ob gi (.stringIter s s'.1) :: pt g2 t_api_Fault [.int .i64 0, .int .i64 0] :: F)
    (fun s' => s'.1 ≤ s.size ∧ rfold ((strI s).take s'.1) = some s'.2) (fun s' => s.size - s'.1) (0, (.word, 7)) ⟨rfl, rfl, rfl, rfl, trivial⟩ (Ent.refl _) ⟨Nat.zero_le _, rfl⟩ ?_
  rintro ⟨p, q⟩ ⟨hp, hq⟩
  dsimp only at hp hq ⊢
  have hrel := rfold_rel hq
  (refine sw_seq ?_; refine sw_region ?_)
  by_cases hlt : p < s.size
  · have hpl : p < (strI s).length := by omega
    have hstep := rune_step hlt hpl q
    have hrs := (hrel.step ((Utf8.decode s p).1 : Int)).1
    refine so_nextS 0 rfl rfl rfl rfl rfl hlt rfl ?_
    generalize hc : ((Utf8.decode s p).1 : Int) = c at hstep hrs ⊢
    have hsl := slashes_snoc ((strI s).take p) c
    have hsp : slashes ((strI s).take p) ≤ 7 := by have := hrel.1; omega
    (refine so_1 rfl ?_)
    refine so_nil (sn_then ?_)
    (refine sw_seq ?_; refine sw_cond_t rfl ?_; refine sw_skip ?_; refine sn_then ?_; refine sw_block ?_; refine sw_seq ?_; refine sw_region ?_)
    ((iterate 4 refine so_1 rfl ?_))
    refine so_nil (sn_then ?_)
    refine sw_mid (S := Unit) (fun _ => [(0, .string s), (2, .pointer (some ⟨g2, 0, none⟩)), (3, .int .i64 (1 + slashes ((strI s).take p ++ [c]) : Nat)), (4, .int .i64 (p : Int)), (5, .int .i32 c), (11, .pointer (some ⟨gi, 0, none⟩))]) (fun _ => ob gi (.stringIter s (p + (Utf8.decode s p).2)) :: pt g2 t_api_Fault [.int .i64 0, .int .i64 0] :: F) (fun _ => True) ?_ ?_
    · (refine sw_seq ?_; refine sw_region ?_; (iterate 2 refine so_1 rfl ?_); refine so_nil ?_; refine sn_then ?_)
      refine sw_if rfl (fun h => ?_) (fun h => ?_)
      · rw [if_pos h] at hsl
        (refine sw_region ?_; refine so_1 rfl ?_; refine so_2 rfl (by (unfold I64; omega)) ?_; refine so_1 rfl ?_; refine so_nil ?_)
        exact sn_mid () ⟨rfl, rfl, congrArg (fun v => some (Value.int .i64 v)) (by rw [hsl]; push_cast; omega), rfl, rfl, rfl, trivial⟩ (Ent.refl _) trivial
      · rw [if_neg h] at hsl
        (refine sw_skip ?_)
        exact sn_mid () ⟨rfl, rfl, congrArg (fun v => some (Value.int .i64 v)) (by rw [hsl]; rfl), rfl, rfl, rfl, trivial⟩ (Ent.refl _) trivial
    rintro ⟨⟩ _
    (refine sw_seq ?_; refine sw_region ?_; (iterate 2 refine so_1 rfl ?_); refine so_2 rfl (by omega) ?_; refine so_1 rfl ?_)
    refine so_callE rfl rfl rfl (rgoes_S (by simp; omega)) ?_
    have e0 : strI (s.extract 0 (p : Int).toNat) = (strI s).take p := by rw [Int.toNat_natCast]; exact strI_extract (by omega)
    rw [e0]
    cases hr : rstep q (strI s)[p] with
    | none =>
      rw [hstep, hr] at hrs
      have hbad := repoF_bad hl hpl hq hr
      cases hg : goesB ((strI s).take p) c with
      | false =>
        ((iterate 5 refine so_1 rfl ?_); refine so_nil ?_; refine sn_then ?_; refine sw_cond_t rfl ?_; refine sw_seq ?_; refine sw_region ?_; refine so_1 rfl ?_)
        refine so_call rfl rfl rfl (rends_S) ?_
        rintro v F' ⟨rfl, rfl⟩
        (refine so_s1 1 rfl rfl rfl rfl ?_; refine so_nil ?_; refine sn_then ?_; refine sw_ret ?_; refine sn_block_ret ?_; refine sn_loop_ret ?_; refine sn_block_ret ?_; refine sn_then_ret ?_)
        refine sn_ret rfl (.agg 1 rfl rfl rfl rfl rfl .nil) (ent_keep 2 [] rfl rfl) ?_
        exact ⟨by rw [hbad]; rfl, rfl⟩
      | true =>
        rw [hg, Bool.true_and] at hrs
        have hn : ¬ (1 + slashes ((strI s).take p ++ [c]) ≤ 8) := of_decide_eq_false hrs.symm
        ((iterate 5 refine so_1 rfl ?_); refine so_nil ?_; refine sn_then ?_)
        refine sw_if rfl (fun h8 => ?_) (fun h8 => absurd (by omega) h8)
        (refine sw_seq ?_; refine sw_region ?_; refine so_1 rfl ?_)
        skip
        refine so_call rfl rfl rfl (rends_S) ?_
        rintro v F' ⟨rfl, rfl⟩
        (refine so_s1 1 rfl rfl rfl rfl ?_; refine so_nil ?_; refine sn_then ?_; refine sw_ret ?_; refine sn_block_ret ?_; refine sn_loop_ret ?_; refine sn_block_ret ?_; refine sn_then_ret ?_)
        refine sn_ret rfl (.agg 1 rfl rfl rfl rfl rfl .nil) (ent_keep 2 [] rfl rfl) ?_
        exact ⟨by rw [hbad]; rfl, rfl⟩
    | some q' =>
      rw [hstep, hr] at hrs
      have hone := rune_one hlt hpl hr
      have hcb : c = (strI s)[p] := by rw [← hc, hone, strI_at hlt hpl]
      have hgt : goesB ((strI s).take p) c = true := by
        cases hg : goesB ((strI s).take p) c with
        | true => rfl
        | false => rw [hg] at hrs; cases hrs
      rw [hgt] at hrs ⊢
      have hn : 1 + slashes ((strI s).take p ++ [c]) ≤ 8 := of_decide_eq_true (by simpa using hrs.symm)
      ((iterate 5 refine so_1 rfl ?_); refine so_nil ?_; refine sn_then ?_)
      refine sw_if rfl (fun h8 => absurd h8 (by omega)) (fun h8 => ?_)
      (refine sw_skip ?_; refine sn_block ?_)
      refine sn_round (p + 1, q') ⟨rfl, rfl, ?_, rfl, trivial⟩ ?_ ⟨hlt, ?_⟩ (by dsimp only; omega)
      · rw [List.take_succ_eq_append_getElem hpl, ← hcb]; rfl
      · rw [hone]; exact Ent.refl _
      · rw [rfold_take_succ hpl, hq]; exact hr
  · refine so_nextSE 0 rfl rfl rfl rfl rfl (by omega) ?_
    have hq' : rfold (strI s) = some q := by rw [← hq, List.take_of_length_le (by omega)]
    have he := repoF_end hl hq'
    have hends := (rfold_rel hq').ends
    (refine so_1 rfl ?_; refine so_nil ?_; refine sn_then ?_; refine sw_seq ?_; refine sw_cond_f rfl ?_; refine sw_exit ?_; refine sn_then_exit ?_; refine sn_loop_exit ?_; refine sn_block_exit ?_; refine sn_then ?_; (iterate 2 refine sw_seq ?_); refine sw_region ?_; (iterate 3 refine so_1 rfl ?_))
    refine so_if 34 rfl (fun h1 => ?_) (fun h1 => ?_)
    · have hz : s.size = 0 := by show s.data.size = 0; rw [h1]; rfl
      have hin : q.1 ≠ .inside := by
        intro e; rw [decide_eq_true e, lastB_empty hz] at hends; exact absurd hends (by decide)
      ((iterate 9 refine so_1 rfl ?_); refine so_nil ?_; refine sn_then ?_; refine sw_cond_t rfl ?_; refine sw_seq ?_; refine sw_region ?_; (iterate 2 refine so_1 rfl ?_))
      refine so_call rfl rfl rfl (rends_S) ?_
      rintro v F' ⟨rfl, rfl⟩
      (refine so_s1 1 rfl rfl rfl rfl ?_; refine so_nil ?_; refine sn_then ?_; refine sw_ret ?_; refine sn_then_ret ?_)
      refine sn_ret rfl (.agg 1 rfl rfl rfl rfl rfl .nil) (ent_keep 2 [] rfl rfl) ?_
      exact ⟨by rw [he, if_neg hin, hsz]; rfl, rfl⟩
    have hz : 0 < s.size := by
      rcases Nat.eq_zero_or_pos s.size with h0 | h0
      · exact absurd (Array.eq_empty_of_size_eq_zero h0) h1
      · exact h0
    have e1 : ((s.data.toList.getD ((s.size : Int) - 1).toNat 0).toNat : Int) = lastB (strI s) := by
      rw [show ((s.size : Int) - 1).toNat = s.size - 1 by omega]; exact lastB_at hz
    ((iterate 3 refine so_1 rfl ?_); refine so_2 rfl (by (unfold I64; omega)) ?_; refine so_2 rfl (by omega) ?_; refine so_1 rfl ?_)
    refine so_know 40 (.int .i32 (lastB (strI s))) rfl (congrArg (Value.int .i32) (by rw [e1]; exact wrap32' lastB_byte)) ?_
    refine so_callE rfl rfl rfl (rlow_S) ?_
    rw [← hends]
    by_cases hin : q.1 = .inside
    · rw [decide_eq_true hin]
      ((iterate 2 refine so_1 rfl ?_); refine so_nil ?_; refine sn_then ?_; refine sw_cond_f rfl ?_; refine sw_skip ?_; refine sn_then ?_; refine sw_seq ?_; refine sw_region ?_; refine so_1 rfl ?_; refine so_s1 1 rfl rfl rfl rfl ?_; refine so_nil ?_; refine sn_then ?_; refine sw_ret ?_)
      refine sn_ret rfl (.agg 1 rfl rfl rfl rfl rfl .nil) (ent_keep 2 [] rfl rfl) ?_
      exact ⟨by rw [he, if_pos hin]; rfl, rfl⟩
    · rw [decide_eq_false hin]
      ((iterate 2 refine so_1 rfl ?_); refine so_nil ?_; refine sn_then ?_; refine sw_cond_t rfl ?_; refine sw_seq ?_; refine sw_region ?_; (iterate 2 refine so_1 rfl ?_))
      refine so_call rfl rfl rfl (rends_S) ?_
      rintro v F' ⟨rfl, rfl⟩
      (refine so_s1 1 rfl rfl rfl rfl ?_; refine so_nil ?_; refine sn_then ?_; refine sw_ret ?_; refine sn_then_ret ?_)
      refine sn_ret rfl (.agg 1 rfl rfl rfl rfl rfl .nil) (ent_keep 2 [] rfl rfl) ?_
      exact ⟨by rw [he, if_neg hin, hsz]; rfl, rfl⟩
end
end Go.Proofs.Ytjfileaidgknjaa
/- Uploads, part one: sessions and tables in memory; where a session stands. Conditions: none. -/
namespace Go.Proofs.Ytjfileaidgknjaa
open Go Go.Eng Go.RowKit

/-- A session: block, number, repository, its pieces. -/
structure Us where
  g : Nat
  n : Int
  r : ByteArray
  pv : Value
  ps : List (Value × List Int)
def Us.b (u : Us) : List Int := u.ps.flatMap (·.2)
def usC (u : Us) : List Value := [.int .i64 u.n, .int .i64 u.b.length, .string u.r, u.pv]
def psF : List (Value × List Int) → List SP
  | [] => []
  | p :: l => rB p.1 p.2 :: psF l
abbrev rP (v : Value) (l : List (Value × List Int)) : SP := row t_sl_uint8 1 v l.length (l.map (·.1))
def usP (u : Us) : List SP := [pt u.g t_upload_session (usC u), rP u.pv u.ps, all (psF u.ps)]
def usF : List Us → List SP
  | [] => []
  | u :: l => usP u ++ usF l
abbrev usK (L : List Us) : List Value := L.map fun u => .pointer (some ⟨u.g, 0, none⟩)
abbrev usR (A : Option Addr) (c n : Nat) (L : List Us) : SP := row t_p_upload_session 1 (.slice A n c) n (usK L)
abbrev tbU (g : Nat) (w nx : Int) (A : Option Addr) (c n : Nat) (L : List Us) (F : List SP) : List SP := pt g t_upload_Table [.int .i64 w, .int .i64 nx, .slice A n c] :: usR A c n L :: all (usF L) :: F
theorem usF_app (a c : List Us) : usF (a ++ c) = usF a ++ usF c := by
  induction a with
  | nil => rfl
  | cons u a ih => simp only [List.cons_append, usF, ih, List.append_assoc]
theorem usF_at {l1 l2 : List Us} {u : Us} : (usF (l1 ++ u :: l2)).Perm (usP u ++ usF (l1 ++ l2)) := by
  rw [usF_app, usF_app, usF, ← List.append_assoc, ← List.append_assoc]
  exact List.Perm.append_right _ List.perm_append_comm
theorem usK_one {L : List Us} : ∀ u ∈ usK L, u.oneCell' = true := by
  intro u hu; obtain ⟨x, _, rfl⟩ := List.mem_map.1 hu; rfl
section
variable {b : World} {F : List SP} {k : Nat} {L : List Us}
theorem usF_sat {u : Us} (hk : nth F k = some (all (usF L))) (hu : u ∈ L) : ∀ w, Sat b F w → ∃ G, Sat b (usP u ++ G) w := fun w hS => by
  obtain ⟨l1, l2, rfl⟩ := List.append_of_mem hu
  obtain ⟨h1, l, hA⟩ := hS.mem.get hk
  exact ⟨usF (l1 ++ l2), hS.os, hS.tape, hS.output, (ent_perm usF_at _ hA).mono l⟩
theorem usF_cell {u : Us} {j : Nat} {v : Value} (hk : nth F k = some (all (usF L))) (hu : u ∈ L) (hj : nth (usC u) j = some v) : ∀ w, Sat b F w → w.cell? ⟨u.g, j, none⟩ = some v := fun w hS => by
  obtain ⟨G, hG⟩ := usF_sat hk hu w hS
  have B := hG.blk (k := 0) rfl
  rw [B.cell, ← nth_eq]; exact hj
def cmpN (x y : Int) : Int := if x < y then -1 else if y < x then 1 else 0
theorem isNaN_S {x : Int} : SC Try.prog n_cmp_isNaN_int [.int .i64 x] b F (fun v F' => v = .bool false ∧ F' = F) := by
  refine enterS F_cmp_isNaN_int rfl rfl rfl ?_
  (refine sw_seq ?_; refine sw_region ?_; refine so_1 rfl ?_; refine so_nil ?_; refine sn_then ?_; refine sw_seq ?_; refine sw_region ?_; (iterate 4 refine so_1 rfl ?_); refine so_nil ?_; refine sn_then ?_; refine sw_ret ?_)
  refine sn_ret rfl (.tmp rfl .nil) (Ent.refl _) ?_
  exact ⟨congrArg Value.bool (by simp), rfl⟩
theorem Compare_S {x y : Int} : SC Try.prog n_cmp_Compare_int [.int .i64 x, .int .i64 y] b F (fun v F' => v = .int .i64 (cmpN x y) ∧ F' = F) := by
  refine enterS F_cmp_Compare_int rfl rfl rfl ?_
  (refine sw_seq ?_; refine sw_region ?_; refine so_1 rfl ?_; refine so_nil ?_; refine sn_then ?_; refine sw_seq ?_; refine sw_region ?_; refine so_1 rfl ?_)
  refine so_callE rfl rfl rfl (isNaN_S) ?_
  (refine so_1 rfl ?_; refine so_nil ?_; refine sn_then ?_; refine sw_seq ?_; refine sw_region ?_; refine so_1 rfl ?_)
  refine so_callE rfl rfl rfl (isNaN_S) ?_
  (refine so_1 rfl ?_; refine so_nil ?_; refine sn_then ?_; (iterate 2 refine sw_seq ?_); refine sw_region ?_; refine so_1 rfl ?_; refine so_nil ?_; refine sn_then ?_; refine sw_cond_f rfl ?_; refine sw_skip ?_; refine sn_then ?_; (iterate 2 refine sw_seq ?_); refine sw_region ?_; refine so_1 rfl ?_; refine so_nil ?_; refine sn_then ?_; refine sw_cond_f rfl ?_; refine sw_skip ?_; refine sn_then ?_; (iterate 2 refine sw_seq ?_); refine sw_region ?_; (iterate 3 refine so_1 rfl ?_); refine so_nil ?_; refine sn_then ?_)
  refine sw_if rfl (fun h1 => ?_) (fun h1 => ?_)
  · (refine sw_seq ?_; refine sw_region ?_; refine so_1 rfl ?_; refine so_nil ?_; refine sn_then ?_; refine sw_ret ?_; refine sn_then_ret ?_)
    refine sn_ret rfl (.tmp rfl .nil) (Ent.refl _) ?_
    exact ⟨by rw [cmpN, if_pos h1]; rfl, rfl⟩
  (refine sw_skip ?_; refine sn_then ?_; (iterate 2 refine sw_seq ?_); refine sw_region ?_; (iterate 3 refine so_1 rfl ?_); refine so_nil ?_; refine sn_then ?_)
  refine sw_if rfl (fun h2 => ?_) (fun h2 => ?_)
  · (refine sw_seq ?_; refine sw_region ?_; refine so_1 rfl ?_; refine so_nil ?_; refine sn_then ?_; refine sw_ret ?_; refine sn_then_ret ?_)
    refine sn_ret rfl (.tmp rfl .nil) (Ent.refl _) ?_
    exact ⟨by rw [cmpN, if_neg h1, if_pos h2]; rfl, rfl⟩
  (refine sw_skip ?_; refine sn_then ?_; refine sw_seq ?_; refine sw_region ?_; refine so_1 rfl ?_; refine so_nil ?_; refine sn_then ?_; refine sw_ret ?_)
  refine sn_ret rfl (.tmp rfl .nil) (Ent.refl _) ?_
  exact ⟨by rw [cmpN, if_neg h1, if_neg h2]; rfl, rfl⟩
theorem find1_S {u : Us} {x : Int} (hk : nth F k = some (all (usF L))) (hu : u ∈ L) : SC Try.prog n_p_upload_Table_find_1 [.pointer (some ⟨u.g, 0, none⟩), .int .i64 x] b F (fun v F' => v = .int .i64 (cmpN u.n x) ∧ F' = F) := by
  refine enterS F_p_upload_Table_find_1 rfl rfl rfl ?_
  (refine sw_seq ?_; refine sw_region ?_; refine so_1 rfl ?_; refine so_nil ?_; refine sn_then ?_; refine sw_seq ?_; refine sw_region ?_; (iterate 3 refine so_1 rfl ?_))
  refine so_rd rfl (fun w H => ex_load rfl rfl rfl (usF_cell (j := 0) (v := .int .i64 u.n) hk hu rfl w H)) rfl ?_
  (refine so_1 rfl ?_)
  refine so_callE rfl rfl rfl (Compare_S) ?_
  (refine so_1 rfl ?_; refine so_nil ?_; refine sn_then ?_; refine sw_ret ?_)
  refine sn_ret rfl (.tmp rfl .nil) (Ent.refl _) ?_
  exact ⟨rfl, rfl⟩
theorem mid_w {i j : Nat} (h : i + j ≤ 100000) : IntKind.i64.wrap ((IntKind.u64.wrap ((i : Int) + (j : Int))).fdiv (2 ^ min (Int.toNat 1) IntKind.u64.bits)) = (((i + j) / 2 : Nat) : Int) := by
  have h1 : IntKind.u64.wrap ((i : Int) + (j : Int)) = (i : Int) + (j : Int) := by
    have : IntKind.u64.wrap ((i : Int) + (j : Int)) = ((i : Int) + (j : Int)) % 18446744073709551616 := rfl
    rw [this]; omega
  rw [h1, show (2 : Int) ^ min (Int.toNat 1) IntKind.u64.bits = 2 from rfl, I64.wrap (by rw [Int.fdiv_eq_ediv_of_nonneg _ (by omega)]; unfold I64; omega), Int.fdiv_eq_ediv_of_nonneg _ (by omega)]
  omega
theorem bsearch_S {A : Option Addr} {c n : Nat} {x : Int} (hk : nth F k = some (all (usF L))) {k1 : Nat} (hk1 : nth F k1 = some (usR A c n L)) (hn : L.length = n) (h8 : n ≤ 1000) (hs : L.Pairwise (fun a c => a.n < c.n)) :
    SC Try.prog n_slices_BinarySearchFunc_sl_p_upload_session_p_upload_session_int [.slice A n c, .int .i64 x, .func (.func n_p_upload_Table_find_1) ⟨[]⟩ ⟨[]⟩] b F (fun v F' => (∃ (i : Nat), v = .tuple ⟨[.int .i64 i, .bool (decide (∃ u, L[i]? = some u ∧ u.n = x))]⟩ ∧ (∀ (j : Nat) u, L[j]? = some u → j < i → u.n < x) ∧ (∀ (j : Nat) u, L[j]? = some u → i ≤ j → x ≤ u.n)) ∧ F' = F) := by
  refine enterS F_slices_BinarySearchFunc_sl_p_upload_session_p_upload_session_int rfl rfl rfl ?_
  refine sw_fact (fun w H => (H.oat hk1).form) ?_
  rintro ⟨A', c', hv, q1, q2, q3⟩
  simp only [Value.slice.injEq, true_and] at hv
  obtain ⟨rfl, rfl⟩ := hv
  have cell : ∀ i (hi : i < L.length), (usK L)[i]? = some (.pointer (some ⟨L[i].g, 0, none⟩)) := fun i hi => by simp [usK, hi]
  (refine sw_seq ?_; refine sw_region ?_; (iterate 2 refine so_1 rfl ?_); refine so_nil ?_; refine sn_then ?_; refine sw_seq ?_; refine sw_region ?_; (iterate 3 refine so_1 rfl ?_); refine so_nil ?_; refine sn_then ?_; refine sw_seq ?_; refine sw_region ?_; (iterate 3 refine so_1 rfl ?_); refine so_nil ?_; refine sn_then ?_; refine sw_seq ?_; refine sw_block ?_)
  refine sw_loop (S := Nat × Nat) (fun s => [(0, .slice A n c), (1, .int .i64 x), (2, .func (.func n_p_upload_Table_find_1) ⟨[]⟩ ⟨[]⟩), (8, .int .i64 n), (9, .int .i64 s.1), (10, .int .i64 s.2)]) (fun _ => F)
    (fun s => s.1 ≤ s.2 ∧ s.2 ≤ n ∧ (∀ (j : Nat) u, L[j]? = some u → j < s.1 → u.n < x) ∧ (∀ (j : Nat) u, L[j]? = some u → s.2 ≤ j → x ≤ u.n)) (fun s => s.2 - s.1) (0, n) ⟨rfl, rfl, rfl, rfl, rfl, rfl, trivial⟩ (Ent.refl _)
    ⟨Nat.zero_le _, Nat.le_refl _, fun j u _ h => absurd h (Nat.not_lt_zero j), fun j u h hj => absurd (List.getElem?_eq_some_iff.1 h).1 (by omega)⟩ ?_
  rintro ⟨i, j⟩ ⟨hij, hjn, hlo, hhi⟩
  dsimp only at hij hjn hlo hhi ⊢
  ((iterate 2 refine sw_seq ?_); refine sw_region ?_; (iterate 3 refine so_1 rfl ?_); refine so_nil ?_; refine sn_then ?_)
  refine sw_if rfl (fun h1 => ?_) (fun h1 => ?_)
  · (refine sw_skip ?_; refine sn_then ?_; refine sw_block ?_; refine sw_seq ?_; refine sw_region ?_; (iterate 2 refine so_1 rfl ?_); refine so_2 rfl (by (unfold I64; omega)) ?_; refine so_1 rfl ?_; refine so_2 rfl (by omega) ?_; (iterate 2 refine so_1 rfl ?_); refine so_nil ?_; refine sn_then ?_; refine sw_seq ?_; refine sw_region ?_; (iterate 3 refine so_1 rfl ?_))
    rw [mid_w (by omega)]
    obtain ⟨m, hm⟩ : ∃ m, m = (i + j) / 2 := ⟨_, rfl⟩
    rw [← hm]
    have hmn : m < L.length := by omega
    obtain ⟨gg, oo, rfl⟩ := q3 (by omega)
    (refine so_2 rfl (by omega) ?_)
    refine so_rd rfl (fun w H => ex_load rfl rfl rfl (by rw [mulz_eq, Int.toNat_natCast, Nat.mul_one]; exact row_cell hk1 (cell m hmn) w H)) rfl ?_
    (refine so_1 rfl ?_)
    refine so_callE rfl rfl rfl (find1_S hk (List.getElem_mem hmn)) ?_
    (refine so_1 rfl ?_; refine so_nil ?_; refine sn_then ?_)
    refine sw_if rfl (fun h2 => ?_) (fun h2 => ?_)
    · have h2' : L[m].n < x := by unfold cmpN at h2; split at h2 <;> first | assumption | (split at h2 <;> omega)
      (refine sw_region ?_; refine so_1 rfl ?_; refine so_2 rfl (by (unfold I64; omega)) ?_; refine so_1 rfl ?_; refine so_nil ?_; refine sn_block ?_)
      refine sn_round (m + 1, j) ⟨rfl, rfl, rfl, rfl, rfl, rfl, trivial⟩ (Ent.refl _) ⟨by dsimp only; omega, hjn, fun q u hq hlt => ?_, hhi⟩ (by dsimp only; omega)
      obtain ⟨hq1, rfl⟩ := List.getElem?_eq_some_iff.1 hq
      rcases Nat.lt_or_ge q m with hqm | hqm
      · have := List.pairwise_iff_getElem.1 hs q m hq1 hmn hqm; omega
      · have : q = m := by dsimp only at hlt; omega
        subst this; exact h2'
    · have h2' : x ≤ L[m].n := by unfold cmpN at h2; split at h2 <;> first | omega | (split at h2 <;> omega)
      (refine sw_region ?_; (iterate 2 refine so_1 rfl ?_); refine so_nil ?_; refine sn_block ?_)
      refine sn_round (i, m) ⟨rfl, rfl, rfl, rfl, rfl, rfl, trivial⟩ (Ent.refl _) ⟨by dsimp only; omega, by dsimp only; omega, hlo, fun q u hq hle => ?_⟩ (by dsimp only; omega)
      obtain ⟨hq1, rfl⟩ := List.getElem?_eq_some_iff.1 hq
      dsimp only at hle
      rcases Nat.lt_or_ge m q with hqm | hqm
      · have := List.pairwise_iff_getElem.1 hs m q hmn hq1 hqm; omega
      · have : q = m := by omega
        subst this; exact h2'
  · have hji : j = i := by omega
    subst hji
    (refine sw_exit ?_; refine sn_then_exit ?_; refine sn_loop_exit ?_; refine sn_block_exit ?_; refine sn_then ?_; refine sw_seq ?_; refine sw_region ?_; (iterate 5 refine so_1 rfl ?_))
    by_cases hin : j < n
    · have hin' : j < L.length := by omega
      obtain ⟨gg, oo, rfl⟩ := q3 (by omega)
      refine so_know 39 (.bool true) rfl (congrArg Value.bool (decide_eq_true (by omega))) ?_
      ((iterate 3 refine so_1 rfl ?_); refine so_2 rfl (by omega) ?_)
      refine so_rd rfl (fun w H => ex_load rfl rfl rfl (by rw [mulz_eq, Int.toNat_natCast, Nat.mul_one]; exact row_cell hk1 (cell j hin') w H)) rfl ?_
      (refine so_1 rfl ?_)
      refine so_callE rfl rfl rfl (find1_S hk (List.getElem_mem hin')) ?_
      ((iterate 4 refine so_1 rfl ?_); refine so_nil ?_; refine sn_then ?_; refine sw_ret ?_)
      refine sn_ret rfl (.tmp rfl (.tmp rfl .nil)) (Ent.refl _) ?_
      refine ⟨⟨j, congrArg (fun q => Value.tuple ⟨[.int .i64 (j : Int), .bool q]⟩) (decide_eq_decide.2 ?_), hlo, hhi⟩, rfl⟩
      rw [List.getElem?_eq_getElem hin']
      unfold cmpN
      constructor
      · intro h; exact ⟨_, rfl, by split at h <;> first | omega | (split at h <;> omega)⟩
      · rintro ⟨u, hu, hx⟩
        cases hu
        rw [if_neg (by omega), if_neg (by omega)]
    · refine so_know 39 (.bool false) rfl (congrArg Value.bool (decide_eq_false (by omega))) ?_
      ((iterate 11 refine so_1 rfl ?_); refine so_nil ?_; refine sn_then ?_; refine sw_ret ?_)
      refine sn_ret rfl (.tmp rfl (.tmp rfl .nil)) (Ent.refl _) ?_
      refine ⟨⟨j, congrArg (fun q => Value.tuple ⟨[.int .i64 (j : Int), .bool q]⟩) (decide_eq_false ?_).symm, hlo, hhi⟩, rfl⟩
      rintro ⟨u, hu, _⟩
      have := (List.getElem?_eq_some_iff.1 hu).1
      omega
end
end Go.Proofs.Ytjfileaidgknjaa
/- Uploads, part two: none, find, with. Conditions: none. -/
namespace Go.Proofs.Ytjfileaidgknjaa
open Go Go.Eng Go.RowKit

section
variable {b : World} {F : List SP} {g : Nat} {w nx : Int} {A : Option Addr} {c n : Nat} {L : List Us}
theorem unone_nil : SC Try.prog n_p_upload_Table_none [.pointer none] b F (fun v F' => v = .bool true ∧ F' = F) := by
  refine enterS F_p_upload_Table_none rfl rfl rfl ?_
  (refine sw_seq ?_; refine sw_region ?_; refine so_1 rfl ?_; refine so_nil ?_; refine sn_then ?_; refine sw_seq ?_; refine sw_region ?_; (iterate 10 refine so_1 rfl ?_); refine so_nil ?_; refine sn_then ?_; refine sw_ret ?_)
  refine sn_ret rfl (.tmp rfl .nil) (Ent.refl _) ?_
  exact ⟨rfl, rfl⟩
theorem unone_S {t0 : Nat} {cs : List Value} : SC Try.prog n_p_upload_Table_none [.pointer (some ⟨g, 0, none⟩)] b (pt g t0 (.int .i64 w :: cs) :: F) (fun v F' => v = .bool (decide (w = 0)) ∧ F' = pt g t0 (.int .i64 w :: cs) :: F) := by
  refine enterS F_p_upload_Table_none rfl rfl rfl ?_
  (refine sw_seq ?_; refine sw_region ?_; refine so_1 rfl ?_; refine so_nil ?_; refine sn_then ?_; refine sw_seq ?_; refine sw_region ?_; (iterate 6 refine so_1 rfl ?_); refine so_l 0 rfl rfl rfl ?_; (iterate 3 refine so_1 rfl ?_); refine so_nil ?_; refine sn_then ?_; refine sw_ret ?_)
  refine sn_ret rfl (.tmp rfl .nil) (Ent.refl _) ?_
  exact ⟨rfl, rfl⟩
theorem find_yes {x : Int} {i : Nat} (hn : L.length = n) (h8 : n ≤ 1000) (hs : L.Pairwise (fun a c => a.n < c.n)) (hi : i < L.length) (hx : L[i].n = x) :
    SC Try.prog n_p_upload_Table_find [.pointer (some ⟨g, 0, none⟩), .int .i64 x] b (tbU g w nx A c n L F) (fun v F' => v = .tuple ⟨[.int .i64 i, .bool true]⟩ ∧ F' = tbU g w nx A c n L F) := by
  refine enterS F_p_upload_Table_find rfl rfl rfl ?_
  (refine sw_seq ?_; refine sw_region ?_; (iterate 2 refine so_1 rfl ?_); refine so_nil ?_; refine sn_then ?_; refine sw_seq ?_; refine sw_region ?_; (iterate 3 refine so_1 rfl ?_); refine so_l 0 rfl rfl rfl ?_; refine so_1 rfl ?_)
  refine so_call rfl rfl rfl (bsearch_S (L := L) (k := 2) rfl (k1 := 1) rfl hn h8 hs) ?_
  rintro v F' ⟨⟨m, rfl, h1, h2⟩, rfl⟩
  have hm : m = i := by
    rcases Nat.lt_trichotomy m i with h | h | h
    · have := h2 m L[m] (List.getElem?_eq_getElem (by omega)) (Nat.le_refl _)
      have := List.pairwise_iff_getElem.1 hs m i (by omega) hi h
      omega
    · exact h
    · have := h1 i L[i] (List.getElem?_eq_getElem hi) h; omega
  subst hm
  rw [decide_eq_true (⟨L[m], List.getElem?_eq_getElem hi, hx⟩ : ∃ u, L[m]? = some u ∧ u.n = x)]
  ((iterate 4 refine so_1 rfl ?_); refine so_nil ?_; refine sn_then ?_; refine sw_ret ?_)
  refine sn_ret rfl (.tmp rfl (.tmp rfl .nil)) (Ent.refl _) ?_
  exact ⟨rfl, rfl⟩
theorem find_no {x : Int} (hn : L.length = n) (h8 : n ≤ 1000) (hs : L.Pairwise (fun a c => a.n < c.n)) (hx : ∀ u ∈ L, u.n ≠ x) :
    SC Try.prog n_p_upload_Table_find [.pointer (some ⟨g, 0, none⟩), .int .i64 x] b (tbU g w nx A c n L F) (fun v F' => (∃ i : Int, v = .tuple ⟨[.int .i64 i, .bool false]⟩) ∧ F' = tbU g w nx A c n L F) := by
  refine enterS F_p_upload_Table_find rfl rfl rfl ?_
  (refine sw_seq ?_; refine sw_region ?_; (iterate 2 refine so_1 rfl ?_); refine so_nil ?_; refine sn_then ?_; refine sw_seq ?_; refine sw_region ?_; (iterate 3 refine so_1 rfl ?_); refine so_l 0 rfl rfl rfl ?_; refine so_1 rfl ?_)
  refine so_call rfl rfl rfl (bsearch_S (L := L) (k := 2) rfl (k1 := 1) rfl hn h8 hs) ?_
  rintro v F' ⟨⟨m, rfl, h1, h2⟩, rfl⟩
  rw [decide_eq_false (by rintro ⟨u, hu, he⟩; exact hx u (List.mem_of_getElem? hu) he : ¬ ∃ u, L[m]? = some u ∧ u.n = x)]
  ((iterate 4 refine so_1 rfl ?_); refine so_nil ?_; refine sn_then ?_; refine sw_ret ?_)
  refine sn_ret rfl (.tmp rfl (.tmp rfl .nil)) (Ent.refl _) ?_
  exact ⟨⟨_, rfl⟩, rfl⟩
theorem with_nil {x : Int} {d : Value} : SC Try.prog n_p_upload_Table_with [.pointer none, .int .i64 x, d] b F (fun v F' => v = .int .i64 1 ∧ F' = F) := by
  refine enterS F_p_upload_Table_with rfl rfl rfl ?_
  (refine sw_seq ?_; refine sw_region ?_; refine so_1 rfl ?_; refine so_nil ?_; refine sn_then ?_; (iterate 2 refine sw_seq ?_); refine sw_region ?_; refine so_1 rfl ?_)
  refine so_callE rfl rfl rfl (unone_nil) ?_
  (refine so_nil ?_; refine sn_then ?_; refine sw_cond_t rfl ?_; refine sw_seq ?_; refine sw_region ?_; refine so_1 rfl ?_; refine so_nil ?_; refine sn_then ?_; refine sw_ret ?_; refine sn_then_ret ?_)
  refine sn_ret rfl (.tmp rfl .nil) (Ent.refl _) ?_
  exact ⟨rfl, rfl⟩
theorem with_zero {x : Int} {d : Value} {t0 : Nat} {cs : List Value} : SC Try.prog n_p_upload_Table_with [.pointer (some ⟨g, 0, none⟩), .int .i64 x, d] b (pt g t0 (.int .i64 0 :: cs) :: F) (fun v F' => v = .int .i64 1 ∧ F' = pt g t0 (.int .i64 0 :: cs) :: F) := by
  refine enterS F_p_upload_Table_with rfl rfl rfl ?_
  (refine sw_seq ?_; refine sw_region ?_; refine so_1 rfl ?_; refine so_nil ?_; refine sn_then ?_; (iterate 2 refine sw_seq ?_); refine sw_region ?_; refine so_1 rfl ?_)
  refine so_callE rfl rfl rfl (unone_S) ?_
  (refine so_nil ?_; refine sn_then ?_; refine sw_cond_t rfl ?_; refine sw_seq ?_; refine sw_region ?_; refine so_1 rfl ?_; refine so_nil ?_; refine sn_then ?_; refine sw_ret ?_; refine sn_then_ret ?_)
  refine sn_ret rfl (.tmp rfl .nil) (Ent.refl _) ?_
  exact ⟨rfl, rfl⟩
theorem with_no {x : Int} {d : Value} (hw : w ≠ 0) (hn : L.length = n) (h8 : n ≤ 1000) (hs : L.Pairwise (fun a c => a.n < c.n)) (hx : ∀ u ∈ L, u.n ≠ x) : SC Try.prog n_p_upload_Table_with [.pointer (some ⟨g, 0, none⟩), .int .i64 x, d] b (tbU g w nx A c n L F) (fun v F' => v = .int .i64 12 ∧ F' = tbU g w nx A c n L F) := by
  refine enterS F_p_upload_Table_with rfl rfl rfl ?_
  (refine sw_seq ?_; refine sw_region ?_; refine so_1 rfl ?_; refine so_nil ?_; refine sn_then ?_; (iterate 2 refine sw_seq ?_); refine sw_region ?_; refine so_1 rfl ?_)
  refine so_callE rfl rfl rfl (unone_S) ?_
  rw [decide_eq_false hw]
  (refine so_nil ?_; refine sn_then ?_; refine sw_cond_f rfl ?_; refine sw_skip ?_; refine sn_then ?_; refine sw_seq ?_; refine sw_region ?_; (iterate 2 refine so_1 rfl ?_))
  refine so_call rfl rfl rfl (find_no hn h8 hs hx) ?_
  rintro v F' ⟨⟨i, rfl⟩, rfl⟩
  ((iterate 5 refine so_1 rfl ?_); refine so_nil ?_; refine sn_then ?_; (iterate 2 refine sw_seq ?_); refine sw_region ?_; (iterate 2 refine so_1 rfl ?_); refine so_nil ?_; refine sn_then ?_; refine sw_cond_t rfl ?_; refine sw_seq ?_; refine sw_region ?_; refine so_1 rfl ?_; refine so_nil ?_; refine sn_then ?_; refine sw_ret ?_; refine sn_then_ret ?_)
  refine sn_ret rfl (.tmp rfl .nil) (Ent.refl _) ?_
  exact ⟨rfl, rfl⟩
theorem with_yes {x : Int} {i : Nat} {fd : Nat} {caps : List Value} [Bodied Try.prog fd] {R : Value → List SP → Prop} (hw : w ≠ 0) (hn : L.length = n) (h8 : n ≤ 1000) (hs : L.Pairwise (fun a c => a.n < c.n)) (hi : i < L.length) (hx : L[i].n = x)
    (hd : SC Try.prog fd (.int .i64 i :: .pointer (some ⟨L[i].g, 0, none⟩) :: caps) b (tbU g w nx A c n L F) R) : SC Try.prog n_p_upload_Table_with [.pointer (some ⟨g, 0, none⟩), .int .i64 x, .func (.func fd) ⟨[]⟩ ⟨caps⟩] b (tbU g w nx A c n L F) R := by
  refine enterS F_p_upload_Table_with rfl rfl rfl ?_
  refine sw_fact (fun w H => (H.oat (k := 1) rfl).form) ?_
  rintro ⟨A', c', hv, q1, q2, q3⟩
  simp only [Value.slice.injEq, true_and] at hv
  obtain ⟨rfl, rfl⟩ := hv
  have cell : (usK L)[i]? = some (.pointer (some ⟨L[i].g, 0, none⟩)) := by simp [usK, hi]
  obtain ⟨gg, oo, rfl⟩ := q3 (by omega)
  (refine sw_seq ?_; refine sw_region ?_; refine so_1 rfl ?_; refine so_nil ?_; refine sn_then ?_; (iterate 2 refine sw_seq ?_); refine sw_region ?_; refine so_1 rfl ?_)
  refine so_callE rfl rfl rfl (unone_S) ?_
  rw [decide_eq_false hw]
  (refine so_nil ?_; refine sn_then ?_; refine sw_cond_f rfl ?_; refine sw_skip ?_; refine sn_then ?_; refine sw_seq ?_; refine sw_region ?_; (iterate 2 refine so_1 rfl ?_))
  refine so_call rfl rfl rfl (find_yes hn h8 hs hi hx) ?_
  rintro v F' ⟨rfl, rfl⟩
  ((iterate 5 refine so_1 rfl ?_); refine so_nil ?_; refine sn_then ?_; (iterate 2 refine sw_seq ?_); refine sw_region ?_; (iterate 2 refine so_1 rfl ?_); refine so_nil ?_; refine sn_then ?_; refine sw_cond_f rfl ?_; refine sw_skip ?_; refine sn_then ?_; refine sw_seq ?_; refine sw_region ?_; (iterate 5 refine so_1 rfl ?_); refine so_l 0 rfl rfl rfl ?_; refine so_1 rfl ?_; refine so_2 rfl (by omega) ?_)
  refine so_rd rfl (fun w H => ex_load rfl rfl rfl (by rw [mulz_eq, Int.toNat_natCast, Nat.mul_one]; exact row_cell (k := 1) rfl cell w H)) rfl ?_
  skip
  refine so_call rfl rfl rfl (hd) ?_
  intro v F' hR
  (refine so_1 rfl ?_; refine so_nil ?_; refine sn_then ?_; refine sw_ret ?_)
  refine sn_ret rfl (.tmp rfl .nil) (Ent.refl _) ?_
  exact hR
theorem uNext_S (hw : w ≠ 0) {t0 : Nat} {cs : List Value} : SC Try.prog n_p_upload_Table_Next [.pointer (some ⟨g, 0, none⟩)] b (pt g t0 (.int .i64 w :: .int .i64 nx :: cs) :: F) (fun v F' => v = .int .i64 nx ∧ F' = pt g t0 (.int .i64 w :: .int .i64 nx :: cs) :: F) := by
  refine enterS F_p_upload_Table_Next rfl rfl rfl ?_
  (refine sw_seq ?_; refine sw_region ?_; refine so_1 rfl ?_; refine so_nil ?_; refine sn_then ?_; (iterate 2 refine sw_seq ?_); refine sw_region ?_; refine so_1 rfl ?_)
  refine so_callE rfl rfl rfl (unone_S) ?_
  rw [decide_eq_false hw]
  (refine so_nil ?_; refine sn_then ?_; refine sw_cond_f rfl ?_; refine sw_skip ?_; refine sn_then ?_; refine sw_seq ?_; refine sw_region ?_; (iterate 3 refine so_1 rfl ?_); refine so_l 0 rfl rfl rfl ?_; refine so_1 rfl ?_; refine so_nil ?_; refine sn_then ?_; refine sw_ret ?_)
  refine sn_ret rfl (.tmp rfl .nil) (Ent.refl _) ?_
  exact ⟨rfl, rfl⟩
theorem NNext_nil : SC Try.prog n_p_upload_Table_Next [.pointer none] b F (fun v F' => v = .int .i64 0 ∧ F' = F) := by
  refine enterS F_p_upload_Table_Next rfl rfl rfl ?_
  (refine sw_seq ?_; refine sw_region ?_; refine so_1 rfl ?_; refine so_nil ?_; refine sn_then ?_; (iterate 2 refine sw_seq ?_); refine sw_region ?_; refine so_1 rfl ?_)
  refine so_callE rfl rfl rfl (unone_nil) ?_
  (refine so_nil ?_; refine sn_then ?_; refine sw_cond_t rfl ?_; refine sw_seq ?_; refine sw_region ?_; refine so_1 rfl ?_; refine so_nil ?_; refine sn_then ?_; refine sw_ret ?_; refine sn_then_ret ?_)
  refine sn_ret rfl (.tmp rfl .nil) (Ent.refl _) ?_
  exact ⟨rfl, rfl⟩
theorem NNext_zero {t0 : Nat} {cs : List Value} : SC Try.prog n_p_upload_Table_Next [.pointer (some ⟨g, 0, none⟩)] b (pt g t0 (.int .i64 0 :: cs) :: F) (fun v F' => v = .int .i64 0 ∧ F' = pt g t0 (.int .i64 0 :: cs) :: F) := by
  refine enterS F_p_upload_Table_Next rfl rfl rfl ?_
  (refine sw_seq ?_; refine sw_region ?_; refine so_1 rfl ?_; refine so_nil ?_; refine sn_then ?_; (iterate 2 refine sw_seq ?_); refine sw_region ?_; refine so_1 rfl ?_)
  refine so_callE rfl rfl rfl (unone_S) ?_
  (refine so_nil ?_; refine sn_then ?_; refine sw_cond_t rfl ?_; refine sw_seq ?_; refine sw_region ?_; refine so_1 rfl ?_; refine so_nil ?_; refine sn_then ?_; refine sw_ret ?_; refine sn_then_ret ?_)
  refine sn_ret rfl (.tmp rfl .nil) (Ent.refl _) ?_
  exact ⟨rfl, rfl⟩
end
end Go.Proofs.Ytjfileaidgknjaa
/- Uploads, part three: Offset; Delete, Cancel. Conditions: none. -/
namespace Go.Proofs.Ytjfileaidgknjaa
open Go Go.Eng Go.RowKit

section
variable {b : World} {F : List SP} {g : Nat} {w nx : Int} {A : Option Addr} {c n : Nat} {L : List Us}
theorem Offset1_S {i z : Int} {u : Us} {g4 : Nat} (hu : u ∈ L) : SC Try.prog n_p_upload_Table_Offset_1 [.int .i64 i, .pointer (some ⟨u.g, 0, none⟩), .pointer (some ⟨g4, 0, none⟩)] b (tbU g w nx A c n L (pt g4 t_int [.int .i64 z] :: F)) (fun v F' => v = .int .i64 0 ∧ F' = tbU g w nx A c n L (pt g4 t_int [.int .i64 u.b.length] :: F)) := by
  refine enterS F_p_upload_Table_Offset_1 rfl rfl rfl ?_
  (refine sw_seq ?_; refine sw_region ?_; refine so_1 rfl ?_; refine so_nil ?_; refine sn_then ?_; refine sw_seq ?_; refine sw_region ?_; (iterate 3 refine so_1 rfl ?_))
  refine so_rd rfl (fun w H => ex_load rfl rfl rfl (usF_cell (k := 2) (j := 1) (v := .int .i64 u.b.length) rfl hu rfl w H)) rfl ?_
  (refine so_s1 3 rfl rfl rfl rfl ?_; refine so_nil ?_; refine sn_then ?_; refine sw_seq ?_; refine sw_region ?_; refine so_1 rfl ?_; refine so_nil ?_; refine sn_then ?_; refine sw_ret ?_)
  refine sn_ret rfl (.tmp rfl .nil) (Ent.refl _) ?_
  exact ⟨rfl, rfl⟩
theorem uOffset_no {x : Int} (hw : w ≠ 0) (hn : L.length = n) (h8 : n ≤ 1000) (hs : L.Pairwise (fun a c => a.n < c.n)) (hx : ∀ u ∈ L, u.n ≠ x) : SC Try.prog n_p_upload_Table_Offset [.pointer (some ⟨g, 0, none⟩), .int .i64 x] b (tbU g w nx A c n L F) (fun v F' => v = .tuple ⟨[.int .i64 0, .int .i64 12]⟩ ∧ F' = tbU g w nx A c n L F) := by
  refine enterS F_p_upload_Table_Offset rfl rfl rfl ?_
  (refine sw_seq ?_; refine sw_region ?_)
  refine so_new rfl rfl rfl rfl rfl fun g4 => ?_
  (refine so_1 rfl ?_; refine so_nil ?_; refine sn_then ?_; refine sw_seq ?_; refine sw_region ?_; (iterate 3 refine so_1 rfl ?_))
  refine so_call rfl rfl rfl ((with_no hw hn h8 hs hx).ent (ent_keep 4 [1, 2, 3, 0] rfl rfl)) ?_
  rintro v F' ⟨rfl, rfl⟩
  (refine so_1 rfl ?_; refine so_nil ?_; refine sn_then ?_; refine sw_seq ?_; refine sw_region ?_; refine so_l 3 rfl rfl rfl ?_; refine so_1 rfl ?_; refine so_s1 3 rfl rfl rfl rfl ?_; refine so_1 rfl ?_; refine so_nil ?_; refine sn_then ?_; refine sw_ret ?_)
  refine sn_ret rfl (.cell 3 rfl rfl rfl rfl rfl (.tmp rfl .nil)) (ent_keep 4 [0, 1, 2] rfl rfl) ?_
  exact ⟨rfl, rfl⟩
theorem uOffset_yes {x : Int} {i : Nat} (hw : w ≠ 0) (hn : L.length = n) (h8 : n ≤ 1000) (hs : L.Pairwise (fun a c => a.n < c.n)) (hi : i < L.length) (hx : L[i].n = x) : SC Try.prog n_p_upload_Table_Offset [.pointer (some ⟨g, 0, none⟩), .int .i64 x] b (tbU g w nx A c n L F) (fun v F' => v = .tuple ⟨[.int .i64 L[i].b.length, .int .i64 0]⟩ ∧ F' = tbU g w nx A c n L F) := by
  refine enterS F_p_upload_Table_Offset rfl rfl rfl ?_
  (refine sw_seq ?_; refine sw_region ?_)
  refine so_new rfl rfl rfl rfl rfl fun g4 => ?_
  (refine so_1 rfl ?_; refine so_nil ?_; refine sn_then ?_; refine sw_seq ?_; refine sw_region ?_; (iterate 3 refine so_1 rfl ?_))
  refine so_call rfl rfl rfl ((with_yes hw hn h8 hs hi hx (Offset1_S (List.getElem_mem hi))).ent (ent_keep 4 [1, 2, 3, 0] rfl rfl)) ?_
  rintro v F' ⟨rfl, rfl⟩
  (refine so_1 rfl ?_; refine so_nil ?_; refine sn_then ?_; refine sw_seq ?_; refine sw_region ?_; refine so_l 3 rfl rfl rfl ?_; refine so_1 rfl ?_; refine so_s1 3 rfl rfl rfl rfl ?_; refine so_1 rfl ?_; refine so_nil ?_; refine sn_then ?_; refine sw_ret ?_)
  refine sn_ret rfl (.cell 3 rfl rfl rfl rfl rfl (.tmp rfl .nil)) (ent_keep 4 [0, 1, 2] rfl rfl) ?_
  exact ⟨rfl, rfl⟩
theorem cut_row {α : Type} {cur K : List α} {oo n i : Nat} {z : α} (hK : (cur.drop oo).take n = K) (hn : K.length = n) (hi : i < n) :
    (((cur.take (oo + i) ++ K.drop (i + 1) ++ cur.drop (oo + i + (K.drop (i + 1)).length)).take (oo + (n - 1)) ++ [z] ++ (cur.take (oo + i) ++ K.drop (i + 1) ++ cur.drop (oo + i + (K.drop (i + 1)).length)).drop (oo + (n - 1) + 1)).drop oo).take (n - 1) = K.eraseIdx i := by
  have hl : oo + n ≤ cur.length := by
    have : ((cur.drop oo).take n).length = n := by rw [hK]; exact hn
    rw [List.length_take, List.length_drop] at this; omega
  have h1 : (cur.take (oo + i) ++ K.drop (i + 1)).length = oo + (n - 1) := by
    rw [List.length_append, List.length_take, List.length_drop, hn]; omega
  rw [List.take_left' h1, List.drop_append_of_le_length (by rw [List.length_append, h1]; simp; omega), List.drop_append_of_le_length (by rw [h1]; omega)]
  rw [List.append_assoc, List.take_left' (by rw [List.length_drop, h1]; omega)]
  rw [List.drop_append_of_le_length (by rw [List.length_take]; omega), List.drop_take, show oo + i - oo = i by omega, List.eraseIdx_eq_take_drop_succ, ← hK, List.take_take, show min i n = i by omega]
theorem Delete_S {i : Nat} (hn : L.length = n) (h8 : n ≤ 1000) (hi : i < n) : SC Try.prog n_slices_Delete_sl_p_upload_session_p_upload_session [.slice A n c, .int .i64 i, .int .i64 (i + 1 : Nat)] b (usR A c n L :: F) (fun v F' => v = .slice A (n - 1) c ∧ F' = usR A c (n - 1) (L.eraseIdx i) :: F) := by
  refine enterS F_slices_Delete_sl_p_upload_session_p_upload_session rfl rfl rfl ?_
  refine sw_fact (fun w H => (H.oat (k := 0) rfl).form) ?_
  rintro ⟨A', c', hv, q1, q2, q3⟩
  simp only [Value.slice.injEq, true_and] at hv
  obtain ⟨rfl, rfl⟩ := hv
  obtain ⟨gg, oo, rfl⟩ := q3 (by omega)
  refine sw_row 0 rfl (fun _ => rfl) fun cur f1 f2 f3 f4 f5 => ?_
  (refine sw_seq ?_; refine sw_region ?_; refine so_1 rfl ?_; refine so_nil ?_; refine sn_then ?_; refine sw_seq ?_; refine sw_region ?_; (iterate 5 refine so_1 rfl ?_))
  refine so_sl3 rfl rfl rfl rfl rfl rfl rfl rfl rfl (by omega) (by omega) (by omega) fun v13 => ?_
  (refine so_nil ?_; refine sn_then ?_; (iterate 2 refine sw_seq ?_); refine sw_region ?_; (iterate 3 refine so_1 rfl ?_); refine so_nil ?_; refine sn_then ?_)
  refine sw_if rfl (fun h => absurd h (by omega)) (fun _ => ?_)
  (refine sw_skip ?_; refine sn_then ?_; refine sw_seq ?_; refine sw_region ?_; (iterate 3 refine so_1 rfl ?_); refine so_nil ?_; refine sn_then ?_; refine sw_seq ?_)
  refine sw_draw flo F (by decide +kernel) (ent_keep 1 [] rfl rfl) ?_
  ((iterate 2 refine sd_1 rfl (.inl rfl) ?_); refine sd_2 rfl rfl (by omega) ?_; (iterate 2 refine sd_1 rfl (.inl rfl) ?_); refine sd_2 rfl rfl (by omega) ?_)
  have hj : ((i + 1 : Nat) : Int).toNat ≤ n := by omega
  refine sd_appIn 0 rfl rfl rfl rfl rfl rfl rfl rfl rfl rfl rfl (fun w H => row_drop_sl (cs := usK L) (k := 0) rfl hj w (H.ent (ent_row_back 0 rfl rfl f1 f2 f3 f4 f5))) (fun u hu => usK_one u (List.mem_of_mem_drop hu)) (by omega) f4 (ent_keep 1 [] rfl rfl) ?_
  (refine sd_1 rfl (.inl rfl) ?_)
  refine sd_nil ?_
  (refine sn_then ?_; refine sw_seq ?_; refine sw_region ?_; (iterate 4 refine so_1 rfl ?_); refine so_2 rfl (by omega) ?_)
  have e1 : (i : Int).toNat + (n - ((i + 1 : Nat) : Int).toNat) = n - 1 := by omega
  rw [e1]
  refine so_know 31 (.slice (some ⟨gg, oo + (n - 1), none⟩) 1 (c - (n - 1))) rfl ?_ ?_
  · rw [Int.toNat_natCast, Int.toNat_natCast, if_neg (by omega), Nat.mul_one, show n - (n - 1) = 1 by omega]
    have ha : (⟨gg, oo, none⟩ : Addr).add (n - 1) = ⟨gg, oo + (n - 1), none⟩ := by unfold Addr.add; split <;> simp_all
    simp only [Option.map_some, ha]
  have e2 : ((i + 1 : Nat) : Int).toNat * 1 = i + 1 := by omega
  have e3 : oo + (i : Int).toNat * 1 = oo + i := by omega
  rw [e2, e3]
  have hlen : ((usK L).drop (i + 1)).length = n - (i + 1) := by rw [List.length_drop, List.length_map, hn]
  refine so_clear 0 rfl rfl rfl rfl rfl rfl rfl rfl ?_ ?_
  · simp only [spl, List.length_append, List.length_take, hlen, List.length_drop]; omega
  (refine so_nil ?_; refine sn_then ?_; refine sw_seq ?_; refine sw_region ?_; (iterate 2 refine so_1 rfl ?_); refine so_nil ?_; refine sn_then ?_; refine sw_ret ?_)
  have hcut := cut_row (cur := cur) (K := usK L) (oo := oo) (n := n) (i := i) (z := Value.pointer none) (by rw [← f5, Nat.mul_one]) (by rw [List.length_map, hn]) hi
  have hm : usK (L.eraseIdx i) = (usK L).eraseIdx i := by simp only [usK, List.eraseIdx_eq_take_drop_succ, List.map_append, List.map_take, List.map_drop]
  refine sn_ret rfl (.tmp rfl .nil) (ent_row_back (cs := usK (L.eraseIdx i)) (m := n - 1) (cap := c) (off := oo) (sz := 1) 0 rfl rfl ?_ ?_ f3 ?_ ?_) ?_
  · rw [List.length_map, List.length_eraseIdx, if_pos (by omega)]; omega
  · omega
  · simp only [spl, List.length_append, List.length_take, hlen, List.length_drop, List.length_replicate]; omega
  · rw [hm, ← hcut, Nat.mul_one]; simp only [spl, List.replicate_one, List.length_singleton, List.append_assoc]
  · exact ⟨rfl, rfl⟩
end
end Go.Proofs.Ytjfileaidgknjaa
/- Uploads, part four: Cancel; the bytes of a session. Conditions: none. -/
namespace Go.Proofs.Ytjfileaidgknjaa
open Go Go.Eng Go.RowKit

section
variable {b : World} {F : List SP} {g : Nat} {w nx : Int} {A : Option Addr} {c n : Nat} {L : List Us}
theorem usF_erase {i : Nat} (hi : i < L.length) : (usF L).Perm (usP L[i] ++ usF (L.eraseIdx i)) := by
  have h : L = L.take i ++ L[i] :: L.drop (i + 1) := by rw [← List.drop_eq_getElem_cons hi, List.take_append_drop]
  conv => lhs; rw [h]
  rw [List.eraseIdx_eq_take_drop_succ]
  exact usF_at
theorem Cancel1_S {i : Nat} {u : Us} {gc : Nat} (hn : L.length = n) (h8 : n ≤ 1000) (hi : i < n) : SC Try.prog n_p_upload_Table_Cancel_1 [.int .i64 i, .pointer (some ⟨u.g, 0, none⟩), .pointer (some ⟨gc, 0, none⟩)] b (tbU g w nx A c n L (pt gc t_p_upload_Table [.pointer (some ⟨g, 0, none⟩)] :: F)) (fun v F' => v = .int .i64 0 ∧ F' = tbU g w nx A c (n - 1) (L.eraseIdx i) (pt gc t_p_upload_Table [.pointer (some ⟨g, 0, none⟩)] :: F)) := by
  refine enterS F_p_upload_Table_Cancel_1 rfl rfl rfl ?_
  (refine sw_seq ?_; refine sw_region ?_; refine so_1 rfl ?_; refine so_nil ?_; refine sn_then ?_; refine sw_seq ?_)
  refine sw_draw2 flo 11 (pt g t_upload_Table [.int .i64 w, .int .i64 nx, .slice A n c] :: pt gc t_p_upload_Table [.pointer (some ⟨g, 0, none⟩)] :: F) [] rfl (by decide +kernel) (ent_keep 4 [0, 3] rfl rfl) ?_
  ((iterate 2 refine sd_l 1 rfl rfl rfl rfl ?_); (iterate 2 refine sd_1 rfl (.inl rfl) ?_); refine sd_l 0 rfl rfl rfl rfl ?_; (iterate 2 refine sd_1 rfl (.inl rfl) ?_); refine sd_2 rfl rfl (by (unfold I64; omega)) ?_)
  refine sd_call rfl rfl rfl rfl ((Delete_S hn h8 hi).ent (ent_keep 2 [1, 0] rfl rfl)) ?_
  rintro v F' ⟨rfl, rfl⟩
  refine ⟨ent_keep 4 [1, 3] rfl rfl, ?_⟩
  ((iterate 2 refine sd_1 rfl (.inl rfl) ?_))
  refine sd_nil (sn_draw2 rfl (ent_nil _) ?_)
  refine sd_st 1 rfl rfl rfl rfl rfl rfl rfl rfl rfl rfl rfl (ent_nil _) ?_
  refine sd_nil ?_
  (refine sn_then ?_; refine sw_seq ?_; refine sw_region ?_; refine so_1 rfl ?_; refine so_nil ?_; refine sn_then ?_; refine sw_ret ?_)
  refine sn_ret rfl (.tmp rfl .nil) ((ent_keep 4 [2, 1, 0, 3] rfl rfl).trans ((ent_out (B := usP (L[i]'(by omega))) (usF_erase (by omega))).trans (ent_keep 7 [4, 5, 3, 6] rfl rfl))) ?_
  exact ⟨rfl, rfl⟩
theorem uCancel_no {x : Int} (hw : w ≠ 0) (hn : L.length = n) (h8 : n ≤ 1000) (hs : L.Pairwise (fun a c => a.n < c.n)) (hx : ∀ u ∈ L, u.n ≠ x) : SC Try.prog n_p_upload_Table_Cancel [.pointer (some ⟨g, 0, none⟩), .int .i64 x] b (tbU g w nx A c n L F) (fun v F' => v = .int .i64 12 ∧ F' = tbU g w nx A c n L F) := by
  refine enterS F_p_upload_Table_Cancel rfl rfl rfl ?_
  (refine sw_seq ?_; refine sw_region ?_)
  refine so_box rfl rfl rfl rfl rfl fun gc => ?_
  (refine so_1 rfl ?_; refine so_nil ?_; refine sn_then ?_; refine sw_seq ?_; refine sw_region ?_; refine so_l 0 rfl rfl rfl ?_; (iterate 2 refine so_1 rfl ?_))
  refine so_call rfl rfl rfl ((with_no hw hn h8 hs hx).ent (ent_keep 4 [1, 2, 3, 0] rfl rfl)) ?_
  rintro v F' ⟨rfl, rfl⟩
  (refine so_1 rfl ?_; refine so_nil ?_; refine sn_then ?_; refine sw_ret ?_)
  refine sn_ret rfl (.tmp rfl .nil) (ent_keep 4 [0, 1, 2] rfl rfl) ?_
  exact ⟨rfl, rfl⟩
theorem uCancel_yes {x : Int} {i : Nat} (hw : w ≠ 0) (hn : L.length = n) (h8 : n ≤ 1000) (hs : L.Pairwise (fun a c => a.n < c.n)) (hi : i < L.length) (hx : L[i].n = x) : SC Try.prog n_p_upload_Table_Cancel [.pointer (some ⟨g, 0, none⟩), .int .i64 x] b (tbU g w nx A c n L F) (fun v F' => v = .int .i64 0 ∧ F' = tbU g w nx A c (n - 1) (L.eraseIdx i) F) := by
  refine enterS F_p_upload_Table_Cancel rfl rfl rfl ?_
  (refine sw_seq ?_; refine sw_region ?_)
  refine so_box rfl rfl rfl rfl rfl fun gc => ?_
  (refine so_1 rfl ?_; refine so_nil ?_; refine sn_then ?_; refine sw_seq ?_; refine sw_region ?_; refine so_l 0 rfl rfl rfl ?_; (iterate 2 refine so_1 rfl ?_))
  refine so_call rfl rfl rfl ((with_yes hw hn h8 hs hi hx (Cancel1_S hn h8 (by omega))).ent (ent_keep 4 [1, 2, 3, 0] rfl rfl)) ?_
  rintro v F' ⟨rfl, rfl⟩
  (refine so_1 rfl ?_; refine so_nil ?_; refine sn_then ?_; refine sw_ret ?_)
  refine sn_ret rfl (.tmp rfl .nil) (ent_keep 4 [0, 1, 2] rfl rfl) ?_
  exact ⟨rfl, rfl⟩
theorem uall_S {gu : Nat} : SC Try.prog n_p_upload_session_all [.pointer (some ⟨gu, 0, none⟩)] b F (fun v F' => ∃ gs, v = .func (.func n_p_upload_session_all_1) ⟨[]⟩ ⟨[.pointer (some ⟨gs, 0, none⟩)]⟩ ∧ F' = pt gs t_p_upload_session [.pointer (some ⟨gu, 0, none⟩)] :: F) := by
  refine enterS F_p_upload_session_all rfl rfl rfl ?_
  (refine sw_seq ?_; refine sw_region ?_)
  refine so_box rfl rfl rfl rfl rfl fun gs => ?_
  (refine so_1 rfl ?_; refine so_nil ?_; refine sn_then ?_; refine sw_seq ?_; refine sw_region ?_; (iterate 2 refine so_1 rfl ?_); refine so_nil ?_; refine sn_then ?_; refine sw_ret ?_)
  refine sn_ret rfl (.tmp rfl .nil) (Ent.refl _) ?_
  exact ⟨gs, rfl, rfl⟩
/-- What one byte after the other was yielded. -/
def yl (xs : List Int) : List (List Value) := xs.map fun x => [Value.int .u8 x]
theorem yl_snoc (xs : List Int) (x : Int) : yl xs ++ [[Value.int .u8 x]] = yl (xs ++ [x]) := by simp [yl]
def okY (xs : List (List Value)) (vs : List Value) : Prop := xs.length < 1000000 ∧ ∃ (l : List Int) (x : Int), xs = yl l ∧ vs = [.int .u8 x]
/-- The session, read alone, as the program's text has it. -/
def usQ (u : Us) : List SP := usP u
theorem psF_vl {b : World} {F : List SP} {k : Nat} {ps : List (Value × List Int)} (hk : nth F k = some (all (psF ps))) {j : Nat} (hj : j < ps.length) : ∀ w, Sat b F w → VL (Value.int .u8) w ps[j].1 ps[j].2 := fun w H => by
  obtain ⟨h1, l, H1, a, b', cc⟩ := H.mem.get hk
  have hn : nth (psF ps) j = some (rB ps[j].1 ps[j].2) := by
    clear H l a b' cc hk
    induction ps generalizing j with
    | nil => simp at hj
    | cons p ps ih =>
      cases j with
      | zero => rfl
      | succ j => simp only [psF, nth, List.getElem_cons_succ]; exact ih (by simpa using hj)
  exact (row_oat ((a j).trans l) (cc j _ hn)).sl
theorem all1_S {m : Nat} {J : List (List Value) → SP} {u : Us} {gs : Nat} (hY : YieldS Try.prog m b okY J) (hb : u.b.length ≤ 4096) (hp : u.ps.length ≤ 100000) :
    SC Try.prog n_p_upload_session_all_1 [.func (.yield m) ⟨[]⟩ ⟨[]⟩, .pointer (some ⟨gs, 0, none⟩)] b (J [] :: pt gs t_p_upload_session [.pointer (some ⟨u.g, 0, none⟩)] :: (usP u ++ F)) (fun _ F' => ∃ xs F2, F' = J xs :: F2 ∧ xs = yl u.b ∧ F2 = pt gs t_p_upload_session [.pointer (some ⟨u.g, 0, none⟩)] :: (usP u ++ F)) := by
  obtain ⟨gu, nu, r, pv, ps⟩ := u
  dsimp only [Us.b] at hb hp ⊢
  refine enterS F_p_upload_session_all_1 rfl rfl rfl ?_
  refine sw_fact (fun w H => (H.oat (k := 3) rfl).form) ?_
  rintro ⟨A', c', hv, q1, q2, q3⟩
  dsimp only at hv q1 q2 q3
  subst hv
  (refine sw_seq ?_; refine sw_region ?_; refine so_l 1 rfl rfl rfl ?_; (iterate 2 refine so_1 rfl ?_); refine so_l 2 rfl rfl rfl ?_; (iterate 2 refine so_1 rfl ?_); refine so_nil ?_; refine sn_then ?_; refine sw_block ?_)
  refine sw_loop (S := Nat) (fun i => [(0, .func (.yield m) ⟨[]⟩ ⟨[]⟩), (1, .pointer (some ⟨gs, 0, none⟩)), (10, .slice A' ps.length c'), (11, .int .i64 ps.length), (12, .int .i64 i)])
    (fun i => J (yl ((ps.take i).flatMap (·.2))) :: pt gs t_p_upload_session [.pointer (some ⟨gu, 0, none⟩)] :: (usP ⟨gu, nu, r, .slice A' ps.length c', ps⟩ ++ F)) (fun i => i ≤ ps.length) (fun i => ps.length - i) 0 ⟨rfl, rfl, rfl, rfl, rfl, trivial⟩ (Ent.refl _) (Nat.zero_le _) ?_
  intro i hi
  (refine sw_seq ?_; refine sw_region ?_; refine so_1 rfl ?_; refine so_nil ?_; refine sn_then ?_; refine sw_seq ?_)
  refine sw_if rfl (fun h1 => ?_) (fun h1 => ?_)
  · have hip : i < ps.length := by omega
    obtain ⟨gg, oo, rfl⟩ := q3 (by omega)
    have hpre : ((ps.take i).flatMap (·.2)).length + ps[i].2.length ≤ 4096 := by
      have e : ps = ps.take i ++ ps[i] :: ps.drop (i + 1) := by rw [← List.drop_eq_getElem_cons hip, List.take_append_drop]
      rw [e, List.flatMap_append, List.flatMap_cons, List.length_append, List.length_append] at hb
      omega
    (refine sw_skip ?_; refine sn_then ?_; refine sw_seq ?_; refine sw_block ?_; refine sw_seq ?_; refine sw_region ?_; refine so_2 rfl (by omega) ?_)
    refine so_fact (fun w H => (psF_vl (k := 4) rfl hip w H).form) ?_
    rintro ⟨A2, c2, hv2, r1, r2, r3, r4⟩
    have cell : (ps.map (·.1))[i]? = some (.slice A2 ps[i].2.length c2) := by rw [← hv2]; simp [hip]
    have hvl : ∀ {X : List (List Value)} w, Sat b (J X :: pt gs t_p_upload_session [.pointer (some ⟨gu, 0, none⟩)] :: (usP ⟨gu, nu, r, .slice (some ⟨gg, oo, none⟩) ps.length c', ps⟩ ++ F)) w → VL (Value.int .u8) w (.slice A2 ps[i].2.length c2) ps[i].2 := fun w H => by rw [← hv2]; exact psF_vl (k := 4) rfl hip w H
    have hnext : (ps.take (i + 1)).flatMap (·.2) = (ps.take i).flatMap (·.2) ++ ps[i].2 := by rw [List.take_succ_eq_append_getElem hip, List.flatMap_append, List.flatMap_singleton]
    generalize ps[i].2 = bi at *
    generalize (ps.take i).flatMap (·.2) = pre at *
    refine so_rd rfl (fun w H => ex_load rfl rfl rfl (by rw [mulz_eq, Int.toNat_natCast, Nat.mul_one]; exact row_cell (k := 3) rfl cell w H)) rfl ?_
    (refine so_1 rfl ?_; refine so_nil ?_; refine sn_then ?_; refine sw_seq ?_; refine sw_region ?_; (iterate 3 refine so_1 rfl ?_); refine so_nil ?_; refine sn_then ?_; refine sw_block ?_)
    refine sw_loop (S := Nat) (fun j => [(0, .func (.yield m) ⟨[]⟩ ⟨[]⟩), (1, .pointer (some ⟨gs, 0, none⟩)), (10, .slice (some ⟨gg, oo, none⟩) ps.length c'), (11, .int .i64 ps.length), (12, .int .i64 i), (16, .slice A2 bi.length c2), (17, .int .i64 bi.length), (18, .int .i64 j)])
      (fun j => J (yl (pre ++ bi.take j)) :: pt gs t_p_upload_session [.pointer (some ⟨gu, 0, none⟩)] :: (usP ⟨gu, nu, r, .slice (some ⟨gg, oo, none⟩) ps.length c', ps⟩ ++ F)) (fun j => j ≤ bi.length) (fun j => bi.length - j) 0 ⟨rfl, rfl, rfl, rfl, rfl, rfl, rfl, rfl, trivial⟩ (by rw [List.take_zero, List.append_nil]; exact Ent.refl _) (Nat.zero_le _) ?_
    intro j hj
    (refine sw_seq ?_; refine sw_region ?_; refine so_1 rfl ?_; refine so_nil ?_; refine sn_then ?_; refine sw_seq ?_)
    refine sw_if rfl (fun h2 => ?_) (fun h2 => ?_)
    · have hjb : j < bi.length := by omega
      obtain ⟨g2, o2, rfl⟩ := r4 (by omega)
      (refine sw_skip ?_; refine sn_then ?_; refine sw_seq ?_; refine sw_block ?_; refine sw_seq ?_; refine sw_region ?_; refine so_2 rfl (by omega) ?_)
      refine so_rd rfl (fun w H => ex_load rfl rfl rfl (by rw [mulz_eq, Int.toNat_natCast, Nat.mul_one]; exact (hvl w H).at j hjb)) rfl ?_
      (refine so_1 rfl ?_; refine so_nil ?_; refine sn_then ?_; refine sw_seq ?_; refine sw_region ?_; (iterate 2 refine so_1 rfl ?_))
      refine so_yield 0 hY rfl rfl rfl rfl ⟨by simp [yl]; omega, _, _, rfl, rfl⟩ rfl ?_
      (refine so_1 rfl ?_; refine so_nil ?_; refine sn_then ?_; refine sw_cond_f rfl ?_; refine sw_skip ?_; refine sn_block ?_; refine sn_then ?_; refine sw_region ?_; refine so_2 rfl (by (unfold I64; omega)) ?_; refine so_1 rfl ?_; refine so_nil ?_)
      refine sn_round (j + 1) ⟨rfl, rfl, rfl, rfl, rfl, rfl, rfl, rfl, trivial⟩ ?_ hjb (by omega)
      rw [List.take_succ_eq_append_getElem hjb, ← List.append_assoc, ← yl_snoc]
      exact Ent.refl _
    · have hjj : j = bi.length := by omega
      subst hjj
      (refine sw_exit ?_; refine sn_then_exit ?_; refine sn_loop_exit ?_; refine sn_block_exit ?_; refine sn_block ?_; refine sn_then ?_; refine sw_region ?_; refine so_2 rfl (by (unfold I64; omega)) ?_; refine so_1 rfl ?_; refine so_nil ?_)
      refine sn_round (i + 1) ⟨rfl, rfl, rfl, rfl, rfl, trivial⟩ ?_ hip (by omega)
      rw [hnext, List.take_length]
      exact Ent.refl _
  · have hii : i = ps.length := by omega
    subst hii
    (refine sw_exit ?_; refine sn_then_exit ?_; refine sn_loop_exit ?_; refine sn_block_exit ?_)
    refine sn_end rfl .nil (Ent.refl _) ?_
    exact ⟨_, _, rfl, by rw [List.take_length], rfl⟩
end
end Go.Proofs.Ytjfileaidgknjaa
/- Uploads, part five: all bytes of a session together; as it is told. Conditions: none. -/
namespace Go.Proofs.Ytjfileaidgknjaa
open Go Go.Eng Go.RowKit

def unV : List Value → Int
  | [.int _ x] => x
  | _ => 0
theorem un_yl (l : List Int) : (yl l).map unV = l := by
  simp only [yl, List.map_map]
  conv => rhs; rw [← List.map_id l]
  rfl
section
variable {b : World} {F : List SP}
theorem ubytes_S {u : Us} (hb : u.b.length ≤ 4096) (hp : u.ps.length ≤ 100000) : SC Try.prog n_p_upload_session_bytes [.pointer (some ⟨u.g, 0, none⟩)] b (usP u ++ F) (fun v F' => F' = rB v u.b :: (usP u ++ F)) := by
  refine enterSM F_p_upload_session_bytes rfl rfl rfl ?_
  (refine sw_seq ?_; refine sw_region ?_)
  refine so_new rfl rfl rfl rfl rfl fun g2 => ?_
  (refine so_nil ?_; refine sn_then ?_; (iterate 2 refine sw_seq ?_); refine sw_region ?_; refine so_1 rfl ?_)
  refine so_call rfl rfl rfl (uall_S) ?_
  rintro v F' ⟨gs, rfl, rfl⟩
  (refine so_nil ?_; refine sn_then ?_; refine sw_block ?_)
  refine sw_rangeFunc rfl okY (fun xs => [exP (fun _ : Value => True) fun v => [pt g2 t_sl_uint8 [v], rB v (xs.map unV)]]) (pt gs t_p_upload_session [.pointer (some ⟨u.g, 0, none⟩)] :: (usP u ++ F)) (fun xs F2 => xs = yl u.b ∧ F2 = pt gs t_p_upload_session [.pointer (some ⟨u.g, 0, none⟩)] :: (usP u ++ F)) ?_ rfl ?_ ?_ ?_ ?_
  · exact (ent_keep 2 [1, 0] rfl rfl : Ent _ (pt g2 t_sl_uint8 [.slice none 0 0] :: pt gs t_p_upload_session [.pointer (some ⟨u.g, 0, none⟩)] :: (usP u ++ F))).trans ((ent_row_nil t_uint8 1 rfl).trans ((ent_keep 2 [1, 0] rfl rfl).trans (ent_pack (p := fun _ : Value => True) (G := fun v => [pt g2 t_sl_uint8 [v], rB v (([] : List (List Value)).map unV)]) (.slice none 0 0) trivial)))
  · rintro xs vs ⟨_, l, x, _, rfl⟩; rfl
  · rintro m D xs vs F0 R ⟨hlen, l, x, rfl, rfl⟩ hR
    have hll : l.length < 1000000 := by simpa [yl] using hlen
    rw [yl_snoc, un_yl] at hR
    rw [un_yl]
    refine sw_ent (ent_keep 3 [2, 0, 1] rfl rfl) (sw_opn fun v _ => ?_)
    refine sw_ent (ent_keep 4 [2, 0, 1, 3] rfl rfl) ?_
    (refine sw_region ?_; refine so_1 rfl ?_; refine so_nil ?_)
    refine sn_asg ?_
    (refine sw_block ?_; refine sw_region ?_; refine so_l 1 rfl rfl rfl ?_; refine so_1 rfl ?_)
    refine so_lit [.int .u8 x] rfl rfl rfl rfl rfl rfl rfl rfl rfl fun gl => ?_
    skip
    refine so_append 3 rfl rfl rfl rfl rfl rfl rfl rfl rfl (m := 1) (news := [.int .u8 x]) (fun w H => (H.blk (k := 0) rfl).sl rfl (by decide)) (by simp [Value.oneCell']) (by omega) (fun _ => rfl) fun v' => ?_
    refine so_fact (fun w H => (H.oat (k := 3) rfl).form) ?_
    rintro ⟨A7, c7, rfl, _, _, _⟩
    (refine so_s1 2 rfl rfl rfl rfl ?_; refine so_nil ?_; refine sn_block ?_)
    refine sn_ent (ent_keep 5 [1, 2, 3, 4] rfl rfl) (sn_round_go fun w H => hR w (H.ent ?_))
    have e : row t_uint8 1 (.slice A7 (l.length + 1) c7) (l.length + 1) (u8s l ++ [.int .u8 x]) = rB (.slice A7 (l.length + 1) c7) (l ++ [x]) := by simp [rB]
    rw [e]
    exact (ent_keep 4 [1, 2, 0, 3] rfl rfl).trans ((ent_pack (p := fun _ : Value => True) (G := fun v => [pt g2 t_sl_uint8 [v], rB v (l ++ [x])]) (.slice A7 (l.length + 1) c7) trivial).trans (ent_keep 3 [1, 2, 0] rfl rfl))
  · intro m J hY
    exact all1_S hY hb hp
  · rintro D xs F2 ⟨rfl, rfl⟩
    rw [un_yl]
    refine sn_ent (ent_keep 2 [1, 0] rfl rfl) (sn_opn fun v _ => ?_)
    refine sn_fact (fun w H => (H.oat (k := 1) rfl).form) ?_
    rintro ⟨A7, c7, rfl, _, _, _⟩
    (refine sn_block ?_; refine sn_then ?_; refine sw_seq ?_; refine sw_region ?_; refine so_l 0 rfl rfl rfl ?_; refine so_s1 0 rfl rfl rfl rfl ?_; refine so_nil ?_; refine sn_then ?_; refine sw_ret ?_)
    refine sn_retM rfl (k := 2) rfl rfl (.cell 0 rfl rfl rfl rfl rfl .nil) (ent_keep 4 [1] rfl rfl) ?_
    rfl
/-- A session, as it is told. -/
abbrev ssC (n : Int) (r : ByteArray) (bv : Value) : List Value := [.int .i64 n, .string r, bv]
theorem told_S {u : Us} (hb : u.b.length ≤ 4096) (hp : u.ps.length ≤ 100000) : SC Try.prog n_p_upload_session_told [.pointer (some ⟨u.g, 0, none⟩)] b (usP u ++ F) (fun v F' => ∃ bv, v = .agg ⟨ssC u.n u.r bv⟩ ∧ F' = rB bv u.b :: (usP u ++ F)) := by
  refine enterS F_p_upload_session_told rfl rfl rfl ?_
  (refine sw_seq ?_; refine sw_region ?_)
  refine so_new rfl rfl rfl rfl rfl fun g2 => ?_
  (refine so_nil ?_; refine sn_then ?_; refine sw_seq ?_)
  refine sw_draw2 flo 11 (usP u ++ F) [] rfl (by decide +kernel) (ent_keep 1 [] rfl rfl) ?_
  ((iterate 3 refine sd_1 rfl (.inl rfl) ?_); refine sd_l 0 rfl rfl rfl rfl ?_; (iterate 3 refine sd_1 rfl (.inl rfl) ?_); refine sd_l 0 rfl rfl rfl rfl ?_; refine sd_1 rfl (.inl rfl) ?_)
  refine sd_call rfl rfl rfl rfl ((ubytes_S hb hp (F := pt g2 t_api_Session [.int .i64 0, .string ⟨#[]⟩, .slice none 0 0] :: F)).ent (ent_keep 4 [1, 2, 3, 0] rfl rfl)) ?_
  rintro bv F' rfl
  refine ⟨ent_keep 5 [1, 2, 3] rfl rfl, ?_⟩
  refine sd_fact (fun w H => (H.oat (k := 0) rfl).form) ?_
  rintro ⟨A7, c7, rfl, _, _, _⟩
  (refine sd_1 rfl (.inl rfl) ?_)
  refine sd_nil (sn_draw2 rfl (ent_nil _) ?_)
  refine sd_stA 4 rfl rfl rfl rfl rfl rfl rfl rfl rfl rfl rfl rfl (ent_nil _) ?_
  refine sd_nil ?_
  (refine sn_then ?_; refine sw_ret ?_)
  refine sn_ret rfl (.agg 4 rfl rfl rfl rfl rfl .nil) (ent_keep 5 [0, 1, 2, 3] rfl rfl) ?_
  exact ⟨_, rfl, rfl⟩
end
end Go.Proofs.Ytjfileaidgknjaa
/- Uploads, part six: the table's sessions as they are told; List. Conditions: none. -/
namespace Go.Proofs.Ytjfileaidgknjaa
open Go Go.Eng Go.RowKit

/-- A session as anybody sees it. -/
abbrev Se := Int × ByteArray × List Int
def Us.se (u : Us) : Se := (u.n, u.r, u.b)
structure Ds where
  n : Int
  r : ByteArray
  bv : Value
  b : List Int
def Ds.se (d : Ds) : Se := (d.n, d.r, d.b)
def dsC (d : Ds) : List Value := ssC d.n d.r d.bv
def dsF : List Ds → List SP
  | [] => []
  | d :: l => rB d.bv d.b :: dsF l
theorem dsF_app (a c : List Ds) : dsF (a ++ c) = dsF a ++ dsF c := by
  induction a with
  | nil => rfl
  | cons u a ih => simp only [List.cons_append, dsF, ih]
theorem dsF_at {l1 l2 : List Ds} {u : Ds} : (dsF (l1 ++ u :: l2)).Perm ([rB u.bv u.b] ++ dsF (l1 ++ l2)) := by
  rw [dsF_app, dsF_app, dsF]
  exact List.perm_middle
abbrev rSn (A : Option Addr) (c n : Nat) (l : List Ds) : SP := row t_api_Session 3 (.slice A n c) n (flC dsC l)
abbrev rSs (v : Value) (l : List Ds) : SP := row t_api_Session 3 v l.length (flC dsC l)
theorem dsC_len : ∀ (l : List Ds), ∀ d ∈ l, (dsC d).length = 3 := fun _ _ _ => rfl
theorem dsF_snoc {l : List Ds} {u : Ds} : (dsF (l ++ [u])).Perm ([rB u.bv u.b] ++ dsF l) := by
  have := dsF_at (l1 := l) (l2 := []) (u := u)
  rwa [List.append_nil] at this
structure UOk (u : Us) : Prop where
  hb : u.b.length ≤ 4096
  hp : u.ps.length ≤ 100000
section
variable {b : World} {F : List SP} {g : Nat} {w nx : Int} {A : Option Addr} {c n : Nat} {L : List Us}
theorem told_at {i : Nat} (hi : i < L.length) (ho : UOk L[i]) : SC Try.prog n_p_upload_session_told [.pointer (some ⟨L[i].g, 0, none⟩)] b (tbU g w nx A c n L F) (fun v F' => ∃ bv, v = .agg ⟨ssC L[i].n L[i].r bv⟩ ∧ F' = rB bv L[i].b :: tbU g w nx A c n L F) := by
  refine ((told_S ho.hb ho.hp (F := all (usF (L.eraseIdx i)) :: pt g t_upload_Table [.int .i64 w, .int .i64 nx, .slice A n c] :: usR A c n L :: F)).ent ((ent_keep 3 [2, 0, 1] rfl rfl).trans (ent_out (B := usP L[i]) (usF_erase hi)))).out ?_
  rintro v F' ⟨bv, rfl, rfl⟩
  refine ⟨_, ?_, bv, rfl, rfl⟩
  exact (ent_keep 7 [1, 2, 3, 4, 0, 5, 6] rfl rfl).trans ((ent_in (A := usF L) (B := usP L[i]) (usF_erase hi)).trans (ent_keep 4 [1, 2, 3, 0] rfl rfl))
theorem uList_S (hw : w ≠ 0) (hn : L.length = n) (h8 : n ≤ 1000) (ho : ∀ u ∈ L, UOk u) : SC Try.prog n_p_upload_Table_List [.pointer (some ⟨g, 0, none⟩)] b (tbU g w nx A c n L F) (fun v F' => ∃ D : List Ds, D.map Ds.se = L.map Us.se ∧ F' = rSs v D :: all (dsF D) :: tbU g w nx A c n L F) := by
  refine enterS F_p_upload_Table_List rfl rfl rfl ?_
  refine sw_fact (fun w H => (H.oat (k := 1) rfl).form) ?_
  rintro ⟨A', c', hv, q1, q2, q3⟩
  simp only [Value.slice.injEq, true_and] at hv
  obtain ⟨rfl, rfl⟩ := hv
  (refine sw_seq ?_; refine sw_region ?_; refine so_1 rfl ?_; refine so_nil ?_; refine sn_then ?_; (iterate 2 refine sw_seq ?_); refine sw_region ?_; refine so_1 rfl ?_)
  refine so_callE rfl rfl rfl (unone_S) ?_
  rw [decide_eq_false hw]
  (refine so_nil ?_; refine sn_then ?_; refine sw_cond_f rfl ?_; refine sw_skip ?_; refine sn_then ?_; (iterate 2 refine sw_seq ?_); refine sw_region ?_; (iterate 3 refine so_1 rfl ?_); refine so_l 0 rfl rfl rfl ?_; (iterate 2 refine so_1 rfl ?_); refine so_nil ?_; refine sn_then ?_; refine sw_block ?_)
  refine sw_loop (S := List Ds × Value) (fun s => [(2, s.2), (10, .slice A n c), (11, .int .i64 n), (12, .int .i64 s.1.length)]) (fun s => rSs s.2 s.1 :: all (dsF s.1) :: tbU g w nx A c n L F) (fun s => s.1.map Ds.se = (L.take s.1.length).map Us.se ∧ s.1.length ≤ n) (fun s => n - s.1.length) ([], .slice none 0 0)
    ⟨rfl, rfl, rfl, rfl, trivial⟩ ((ent_row_nil t_api_Session 3 rfl).trans ((ent_close (G := [])).trans (ent_keep 2 [1, 0] rfl rfl))) ⟨rfl, Nat.zero_le _⟩ ?_
  rintro ⟨D, v⟩ ⟨hD, hDn⟩
  dsimp only at hD hDn ⊢
  (refine sw_seq ?_; refine sw_region ?_; refine so_1 rfl ?_; refine so_nil ?_; refine sn_then ?_; refine sw_seq ?_)
  refine sw_if rfl (fun h1 => ?_) (fun h1 => ?_)
  · have hi : D.length < L.length := by omega
    have cell : (usK L)[D.length]? = some (.pointer (some ⟨L[D.length].g, 0, none⟩)) := by simp [usK, hi]
    obtain ⟨gg, oo, rfl⟩ := q3 (by omega)
    (refine sw_skip ?_; refine sn_then ?_; refine sw_seq ?_; refine sw_block ?_; refine sw_seq ?_; refine sw_region ?_; refine so_2 rfl (by omega) ?_)
    refine so_rd rfl (fun w H => ex_load rfl rfl rfl (by rw [mulz_eq, Int.toNat_natCast, Nat.mul_one]; exact row_cell (k := 3) rfl cell w H)) rfl ?_
    (refine so_1 rfl ?_; refine so_nil ?_; refine sn_then ?_; refine sw_region ?_; (iterate 2 refine so_1 rfl ?_))
    refine so_call rfl rfl rfl ((told_at (F := rSs v D :: all (dsF D) :: F) hi (ho _ (List.getElem_mem hi))).ent (ent_keep 5 [2, 3, 4, 0, 1] rfl rfl)) ?_
    rintro v' F' ⟨bv, rfl, rfl⟩
    refine so_fact (fun w H => (H.oat (k := 0) rfl).form) ?_
    rintro ⟨A7, c7, rfl, _, _, _⟩
    skip
    refine so_lit1 rfl rfl rfl rfl rfl rfl rfl rfl (by decide) fun gl => ?_
    obtain ⟨d, hd⟩ : ∃ d : Ds, d = ⟨L[D.length].n, L[D.length].r, .slice A7 L[D.length].b.length c7, L[D.length].b⟩ := ⟨_, rfl⟩
    have hcs : ssC L[D.length].n L[D.length].r (.slice A7 L[D.length].b.length c7) = dsC d := by rw [hd]; rfl
    have hrb : rB (.slice A7 L[D.length].b.length c7) L[D.length].b = rB d.bv d.b := by rw [hd]
    have hse : d.se = L[D.length].se := by rw [hd]; rfl
    rw [hrb, hcs]
    refine so_append 5 rfl rfl rfl rfl rfl rfl rfl rfl rfl (m := 1) (news := dsC d) (fun w H => (H.blk (k := 0) rfl).sl rfl (by decide)) (by intro u hu; simp [dsC, ssC] at hu; rcases hu with rfl | rfl | rfl <;> first | rfl | (rw [hd]; rfl)) (by omega) (fun _ => rfl) fun v' => ?_
    have hrow : row t_api_Session 3 v' (D.length + 1) (flC dsC D ++ dsC d) = rSs v' (D ++ [d]) := by simp [rSs, flC_app, flC]
    rw [hrow]
    (refine so_1 rfl ?_; refine so_nil ?_; refine sn_block ?_; refine sn_then ?_; refine sw_region ?_; refine so_2 rfl (by (unfold I64; omega)) ?_; refine so_1 rfl ?_; refine so_nil ?_)
    refine sn_round (D ++ [d], v') ⟨rfl, rfl, rfl, ?_, trivial⟩ ?_ ⟨?_, ?_⟩ ?_
    · dsimp only; rw [List.length_append]; rfl
    · exact (ent_keep 7 [1, 6, 5, 2, 3, 4] rfl rfl).trans ((ent_in (B := [rB d.bv d.b]) dsF_snoc).trans (ent_keep 2 [1, 0] rfl rfl))
    · simp only [List.length_append, List.length_singleton, List.map_append, List.map_singleton, hD, hse]
      rw [List.take_succ_eq_append_getElem hi, List.map_append, List.map_singleton]
    · simp; omega
    · simp; omega
  · (refine sw_exit ?_; refine sn_then_exit ?_; refine sn_loop_exit ?_; refine sn_block_exit ?_; refine sn_then ?_; refine sw_seq ?_; refine sw_region ?_; (iterate 2 refine so_1 rfl ?_); refine so_nil ?_; refine sn_then ?_; refine sw_ret ?_)
    refine sn_ret rfl (.tmp rfl .nil) (Ent.refl _) ?_
    refine ⟨D, ?_, rfl⟩
    rw [hD, List.take_of_length_le (by omega)]
end
end Go.Proofs.Ytjfileaidgknjaa
/- Uploads, part seven: Finish. Conditions: none. -/
namespace Go.Proofs.Ytjfileaidgknjaa
open Go Go.Eng Go.RowKit

section
variable {b : World} {F : List SP} {g : Nat} {w nx : Int} {A : Option Addr} {c n : Nat} {L : List Us}
abbrev finF (gc gid go g : Nat) (id : List Int) (s : List Value) (F : List SP) : List SP := pt gc t_p_upload_Table [.pointer (some ⟨g, 0, none⟩)] :: pt gid t_api_ID (u8s id) :: pt go t_api_Session s :: F
set_option maxHeartbeats 2000000 in
theorem Finish1_S {i gc gid go : Nat} {id : List Int} {a0 : Int} {a1 : ByteArray} {a2 : Value} (hn : L.length = n) (h8 : n ≤ 1000) (hi : i < L.length) (ho : UOk L[i]) (hid : id.length = 32) :
    SC Try.prog n_p_upload_Table_Finish_1 [.int .i64 i, .pointer (some ⟨L[i].g, 0, none⟩), .pointer (some ⟨gc, 0, none⟩), .pointer (some ⟨gid, 0, none⟩), .pointer (some ⟨go, 0, none⟩)] b (tbU g w nx A c n L (finF gc gid go g id (ssC a0 a1 a2) F))
      (fun v F' => if cutR (sumM L[i].b) w = id then v = .int .i64 0 ∧ ∃ bv, F' = rB bv L[i].b :: tbU g w nx A c (n - 1) (L.eraseIdx i) (finF gc gid go g id (ssC L[i].n L[i].r bv) F) else v = .int .i64 8 ∧ F' = tbU g w nx A c n L (finF gc gid go g id (ssC a0 a1 a2) F)) := by
  have hcl := cutR_len (sumM L[i].b) w (sumM_len L[i].b)
  have hbl := ho.hb
  have hOf : ∀ {b : World} {F : List SP} {vb : Value}, (∀ w, Sat b F w → VL (Value.int .u8) w vb L[i].b) → SC Try.prog n_sha_Of [vb, .int .i64 w] b F (fun v F' => v = .tuple ⟨[idV (cutR (sumM L[i].b) w), .int .i64 (cutE w)]⟩ ∧ F' = F) := fun h => Of_S (by omega) h
  generalize cutR (sumM L[i].b) w = own at *
  generalize cutE w = ce at *
  refine enterS F_p_upload_Table_Finish_1 rfl rfl rfl ?_
  (refine sw_seq ?_; refine sw_region ?_; refine so_1 rfl ?_; refine so_nil ?_; refine sn_then ?_; refine sw_seq ?_; refine sw_region ?_; refine so_1 rfl ?_)
  refine so_call rfl rfl rfl (told_at hi ho) ?_
  rintro v F' ⟨bv, rfl, rfl⟩
  refine so_fact (fun w H => (H.oat (k := 0) rfl).form) ?_
  rintro ⟨A7, c7, rfl, _, _, _⟩
  skip
  refine so_new rfl rfl rfl rfl rfl fun g8 => ?_
  (refine so_s1 0 rfl rfl rfl rfl ?_; refine so_nil ?_; refine sn_then ?_; (iterate 2 refine sw_seq ?_))
  refine sw_freeC 11 [9] (fl := flo) [] [(0, .int .i64 i), (2, .pointer (some ⟨gc, 0, none⟩)), (3, .pointer (some ⟨gid, 0, none⟩)), (4, .pointer (some ⟨go, 0, none⟩)), (8, .pointer (some ⟨g8, 0, none⟩))] ⟨rfl, rfl, rfl, rfl, rfl, trivial⟩ rfl (by kernel_rfl) (by kernel_rfl) (by decide) ?_
  (refine fc_p (fun _ => rfl) ?_; refine fc_ld 0 rfl rfl rfl rfl (fun _ => rfl) rfl rfl ?_; refine fc_ld 5 rfl rfl rfl rfl (fun _ => rfl) rfl rfl ?_; (iterate 2 refine fc_p (fun _ => rfl) ?_); refine fc_ld 2 rfl rfl rfl rfl (fun _ => rfl) rfl rfl ?_)
  refine fc_call rfl (fun _ => rfl) (fun w H => SC.pure (hOf fun w' H' => (vlB (v := .slice A7 L[i].b.length c7) (k := 1) rfl w H).ext (H'.is (k := 0) rfl))) ?_
  ((iterate 3 refine fc_p (fun _ => rfl) ?_); refine fc_new rfl rfl rfl rfl ?_)
  refine .done rfl fun gg => ⟨ent_nil _, ?_⟩
  skip
  refine sd_stW 0 rfl rfl rfl rfl rfl rfl rfl rfl (by rw [u8s_len, hcl]; rfl) (u8s_one _) (by simp [hcl]) (ent_nil _) ?_
  (refine sd_1 rfl (.inl rfl) ?_)
  refine sd_nil ?_
  (refine sn_then ?_; refine sw_seq ?_; refine sw_region ?_)
  refine so_ldA 0 rfl rfl rfl rfl rfl rfl (segID hcl) rfl ?_
  refine so_ldA 7 rfl rfl rfl rfl rfl rfl (segID hid) rfl ?_
  refine so_pu rfl (pu_neI (as00 := own) (bs := id) rfl rfl hcl hid) rfl ?_
  by_cases h : own = id
  · refine so_know 25 (.bool false) rfl (by simp [h]) ?_
    (refine so_nil ?_; refine sn_then ?_; refine sw_cond_f rfl ?_; refine sw_skip ?_; refine sn_then ?_; refine sw_seq ?_; refine sw_region ?_; refine so_l 1 rfl rfl rfl ?_)
    refine so_s1 8 rfl rfl rfl rfl ?_
    (refine so_nil ?_; refine sn_then ?_; refine sw_seq ?_)
    refine sw_draw2 flo 11 (pt g t_upload_Table [.int .i64 w, .int .i64 nx, .slice A n c] :: pt gc t_p_upload_Table [.pointer (some ⟨g, 0, none⟩)] :: F) [] rfl (by decide +kernel) (ent_keep 9 [3, 6] rfl rfl) ?_
    ((iterate 2 refine sd_l 1 rfl rfl rfl rfl ?_); (iterate 2 refine sd_1 rfl (.inl rfl) ?_); refine sd_l 0 rfl rfl rfl rfl ?_; (iterate 2 refine sd_1 rfl (.inl rfl) ?_); refine sd_2 rfl rfl (by (unfold I64; omega)) ?_)
    refine sd_call rfl rfl rfl rfl ((Delete_S hn h8 (by omega)).ent (ent_keep 5 [4, 0, 1, 2, 3] rfl rfl)) ?_
    rintro v F' ⟨rfl, rfl⟩
    refine ⟨ent_keep 9 [4, 6] rfl rfl, ?_⟩
    ((iterate 2 refine sd_1 rfl (.inl rfl) ?_))
    refine sd_nil (sn_draw2 rfl (ent_nil _) ?_)
    refine sd_st 4 rfl rfl rfl rfl rfl rfl rfl rfl rfl rfl rfl (ent_nil _) ?_
    refine sd_nil ?_
    (refine sn_then ?_; refine sw_seq ?_; refine sw_region ?_; refine so_1 rfl ?_; refine so_nil ?_; refine sn_then ?_; refine sw_ret ?_)
    refine sn_ret rfl (.tmp rfl .nil) ((ent_keep 9 [5, 3, 4, 0, 6, 7, 8] rfl rfl).trans ((ent_keep 1 [0] rfl rfl).trans ((ent_out (B := usP L[i]) (usF_erase hi)).trans (ent_keep 10 [4, 5, 6, 3, 7, 8, 9] rfl rfl)))) ?_
    rw [if_pos h]
    exact ⟨rfl, _, rfl⟩
  · refine so_know 25 (.bool true) rfl (by simp [h]) ?_
    (refine so_nil ?_; refine sn_then ?_; refine sw_cond_t rfl ?_; refine sw_seq ?_; refine sw_region ?_; refine so_1 rfl ?_; refine so_nil ?_; refine sn_then ?_; refine sw_ret ?_; refine sn_then_ret ?_)
    refine sn_ret rfl (.tmp rfl .nil) (ent_keep 9 [3, 4, 5, 6, 7, 8] rfl rfl) ?_
    rw [if_neg h]
    exact ⟨rfl, rfl⟩
end
end Go.Proofs.Ytjfileaidgknjaa
/- Uploads, part eight: Finish. Conditions: none. -/
namespace Go.Proofs.Ytjfileaidgknjaa
open Go Go.Eng Go.RowKit

section
variable {b : World} {F : List SP} {g : Nat} {w nx : Int} {A : Option Addr} {c n : Nat} {L : List Us}
abbrev ss0 : Value := .agg ⟨ssC 0 ⟨#[]⟩ (.slice none 0 0)⟩
theorem uFinish_no {x : Int} {id : List Int} (hid : id.length = 32) (hw : w ≠ 0) (hn : L.length = n) (h8 : n ≤ 1000) (hs : L.Pairwise (fun a c => a.n < c.n)) (hx : ∀ u ∈ L, u.n ≠ x) : SC Try.prog n_p_upload_Table_Finish [.pointer (some ⟨g, 0, none⟩), .int .i64 x, idV id] b (tbU g w nx A c n L F) (fun v F' => v = .tuple ⟨[ss0, .int .i64 12]⟩ ∧ F' = tbU g w nx A c n L F) := by
  refine enterS F_p_upload_Table_Finish rfl rfl rfl ?_
  (refine sw_seq ?_; refine sw_region ?_)
  refine so_box rfl rfl rfl rfl rfl fun g3 => ?_
  skip
  refine so_box rfl rfl rfl rfl rfl fun g5 => ?_
  skip
  refine so_new rfl rfl rfl rfl rfl fun g6 => ?_
  (refine so_1 rfl ?_; refine so_nil ?_; refine sn_then ?_; refine sw_seq ?_; refine sw_region ?_; refine so_l 2 rfl rfl rfl ?_; (iterate 2 refine so_1 rfl ?_))
  refine so_call rfl rfl rfl ((with_no hw hn h8 hs hx).ent (ent_keep 6 [3, 4, 5, 2, 1, 0] rfl rfl)) ?_
  rintro v F' ⟨rfl, rfl⟩
  (refine so_1 rfl ?_; refine so_nil ?_; refine sn_then ?_; refine sw_seq ?_; refine sw_region ?_; refine so_l 5 rfl rfl rfl ?_; refine so_1 rfl ?_; refine so_s1 5 rfl rfl rfl rfl ?_; refine so_1 rfl ?_; refine so_nil ?_; refine sn_then ?_; refine sw_ret ?_)
  refine sn_ret rfl (.agg 5 rfl rfl rfl rfl rfl (.tmp rfl .nil)) (ent_keep 6 [0, 1, 2] rfl rfl) ?_
  exact ⟨rfl, rfl⟩
theorem uFinish_yes {x : Int} {id : List Int} {i : Nat} (hid : id.length = 32) (hw : w ≠ 0) (hn : L.length = n) (h8 : n ≤ 1000) (hs : L.Pairwise (fun a c => a.n < c.n)) (hi : i < L.length) (hx : L[i].n = x) (ho : UOk L[i]) : SC Try.prog n_p_upload_Table_Finish [.pointer (some ⟨g, 0, none⟩), .int .i64 x, idV id] b (tbU g w nx A c n L F)
    (fun v F' => if cutR (sumM L[i].b) w = id then ∃ bv, v = .tuple ⟨[.agg ⟨ssC L[i].n L[i].r bv⟩, .int .i64 0]⟩ ∧ F' = rB bv L[i].b :: tbU g w nx A c (n - 1) (L.eraseIdx i) F else v = .tuple ⟨[ss0, .int .i64 8]⟩ ∧ F' = tbU g w nx A c n L F) := by
  refine enterS F_p_upload_Table_Finish rfl rfl rfl ?_
  (refine sw_seq ?_; refine sw_region ?_)
  refine so_box rfl rfl rfl rfl rfl fun g3 => ?_
  skip
  refine so_box rfl rfl rfl rfl rfl fun g5 => ?_
  skip
  refine so_new rfl rfl rfl rfl rfl fun g6 => ?_
  (refine so_1 rfl ?_; refine so_nil ?_; refine sn_then ?_; refine sw_seq ?_; refine sw_region ?_; refine so_l 2 rfl rfl rfl ?_; (iterate 2 refine so_1 rfl ?_))
  refine so_call rfl rfl rfl ((with_yes hw hn h8 hs hi hx (Finish1_S (gc := g3) (gid := g5) (go := g6) hn h8 hi ho hid)).ent (ent_keep 6 [3, 4, 5, 2, 1, 0] rfl rfl)) ?_
  intro v F' hR
  by_cases h : cutR (sumM L[i].b) w = id
  · rw [if_pos h] at hR
    obtain ⟨rfl, bv, rfl⟩ := hR
    refine so_fact (fun w H => (H.oat (k := 0) rfl).form) ?_
    rintro ⟨A7, c7, rfl, _, _, _⟩
    (refine so_1 rfl ?_; refine so_nil ?_; refine sn_then ?_; refine sw_seq ?_; refine sw_region ?_; refine so_l 6 rfl rfl rfl ?_; refine so_1 rfl ?_; refine so_s1 6 rfl rfl rfl rfl ?_; refine so_1 rfl ?_; refine so_nil ?_; refine sn_then ?_; refine sw_ret ?_)
    refine sn_ret rfl (.agg 6 rfl rfl rfl rfl rfl (.tmp rfl .nil)) (ent_keep 7 [0, 1, 2, 3] rfl rfl) ?_
    rw [if_pos h]
    exact ⟨_, rfl, rfl⟩
  · rw [if_neg h] at hR
    obtain ⟨rfl, rfl⟩ := hR
    (refine so_1 rfl ?_; refine so_nil ?_; refine sn_then ?_; refine sw_seq ?_; refine sw_region ?_; refine so_l 5 rfl rfl rfl ?_; refine so_1 rfl ?_; refine so_s1 5 rfl rfl rfl rfl ?_; refine so_1 rfl ?_; refine so_nil ?_; refine sn_then ?_; refine sw_ret ?_)
    refine sn_ret rfl (.agg 5 rfl rfl rfl rfl rfl (.tmp rfl .nil)) (ent_keep 6 [0, 1, 2] rfl rfl) ?_
    rw [if_neg h]
    exact ⟨rfl, rfl⟩
end
end Go.Proofs.Ytjfileaidgknjaa
/- Uploads, part nine: Write. Conditions: none. -/
namespace Go.Proofs.Ytjfileaidgknjaa
open Go Go.Eng Go.RowKit

section
variable {b : World} {F : List SP} {va : Value}
theorem Clone_b {xs : List Int} (ha : ∀ w, Sat b F w → VL (Value.int .u8) w va xs) (hn : xs.length ≤ 1000000) : SC Try.prog n_slices_Clone_sl_byte_byte [va] b F (fun v F' => F' = rB v xs :: F) := by
  refine enterS F_slices_Clone_sl_byte_byte rfl rfl rfl ?_
  refine sw_fact (fun w H => (ha w H).form) ?_
  rintro ⟨A, c, rfl, h1, h2, h3, h4⟩
  cases A with
  | none =>
    have hc := h3 rfl
    have hx : xs = [] := List.length_eq_zero_iff.1 (by omega)
    subst hx
    (refine sw_seq ?_; refine sw_region ?_; refine so_1 rfl ?_; refine so_nil ?_; refine sn_then ?_; (iterate 2 refine sw_seq ?_); refine sw_region ?_; (iterate 2 refine so_1 rfl ?_); refine so_nil ?_; refine sn_then ?_; refine sw_cond_t rfl ?_; refine sw_seq ?_; refine sw_region ?_; refine so_1 rfl ?_; refine so_nil ?_; refine sn_then ?_; refine sw_ret ?_; refine sn_then_ret ?_)
    refine sn_ret rfl (.tmp rfl .nil) (ent_row_nil t_uint8 1 rfl) ?_
    rfl
  | some a =>
    (refine sw_seq ?_; refine sw_region ?_; refine so_1 rfl ?_; refine so_nil ?_; refine sn_then ?_; (iterate 2 refine sw_seq ?_); refine sw_region ?_; (iterate 2 refine so_1 rfl ?_); refine so_nil ?_; refine sn_then ?_; refine sw_cond_f rfl ?_; refine sw_skip ?_; refine sn_then ?_; refine sw_seq ?_; refine sw_region ?_)
    refine so_lit [] rfl rfl rfl rfl rfl rfl rfl rfl rfl fun g0 => ?_
    refine so_ent (ent_blk_row (n := 0) (sz := 1) rfl rfl (by decide) 0 rfl rfl) ?_
    (refine so_1 rfl ?_)
    refine so_append 0 rfl rfl rfl rfl rfl rfl rfl rfl rfl (up ha (ent_keep 1 [] rfl rfl)) (u8s_one _) (by omega) (fun _ => rfl) fun v6 => ?_
    (refine so_1 rfl ?_; refine so_nil ?_; refine sn_then ?_; refine sw_ret ?_)
    refine sn_ret rfl (.tmp rfl .nil) (Ent.refl _) ?_
    show row t_uint8 1 v6 _ _ :: F = rB v6 xs :: F
    simp [rB]
theorem psF_app (a c : List (Value × List Int)) : psF (a ++ c) = psF a ++ psF c := by
  induction a with
  | nil => rfl
  | cons u a ih => simp only [List.cons_append, psF, ih]
theorem psF_snoc {l : List (Value × List Int)} {v : Value} {xs : List Int} : (psF (l ++ [(v, xs)])).Perm ([rB v xs] ++ psF l) := by
  rw [psF_app]; exact List.perm_append_comm
abbrev wrF (gf gs gb gz : Nat) (f : Int) (u : Nat) (vb : Value) (z : Int) (F : List SP) : List SP := pt gf t_api_Errno [.int .i64 f] :: pt gs t_p_upload_session [.pointer (some ⟨u, 0, none⟩)] :: pt gb t_sl_uint8 [vb] :: pt gz t_int [.int .i64 z] :: F
theorem Write11_ok {gf gs gb gz : Nat} {u : Us} {z : Int} {vb : Value} {xs : List Int} (hb : ∀ w, Sat b F w → VL (Value.int .u8) w vb xs) (h1 : u.b.length + xs.length ≤ 4096) (h2 : u.ps.length < 100000) :
    SCD Try.prog n_p_upload_Table_Write_1_1 [.pointer (some ⟨gf, 0, none⟩), .pointer (some ⟨gs, 0, none⟩), .pointer (some ⟨gb, 0, none⟩), .pointer (some ⟨gz, 0, none⟩)] b (wrF gf gs gb gz 0 u.g vb z (usP u ++ F))
      (fun _ F' => ∃ v pv', F' = wrF gf gs gb gz 0 u.g vb (u.b.length + xs.length) (usP ⟨u.g, u.n, u.r, pv', u.ps ++ [(v, xs)]⟩ ++ F)) := by
  refine enterSD F_p_upload_Table_Write_1_1 rfl rfl rfl ?_
  refine sw_fact (fun w H => (hb w (H.ent (ent_keep 7 [] rfl rfl))).form) ?_
  rintro ⟨bA, bc, rfl, b1, b2, b3, b4⟩
  ((iterate 2 refine sw_seq ?_); refine sw_region ?_; refine so_l 0 rfl rfl rfl ?_; refine so_1 rfl ?_; refine so_nil ?_; refine sn_then ?_; refine sw_cond_t rfl ?_; refine sw_seq ?_)
  refine sw_draw2 flo 11 (pt gs t_p_upload_session [.pointer (some ⟨u.g, 0, none⟩)] :: pt gb t_sl_uint8 [.slice bA xs.length bc] :: pt u.g t_upload_session (usC u) :: F) [] rfl (by decide +kernel) (ent_keep 7 [1, 2, 4] rfl rfl) ?_
  ((iterate 2 refine sd_l 0 rfl rfl rfl rfl ?_); (iterate 2 refine sd_1 rfl (.inl rfl) ?_); refine sd_l 2 rfl rfl rfl rfl ?_; refine sd_l 1 rfl rfl rfl rfl ?_)
  refine sd_call rfl rfl rfl rfl (Clone_b (up hb (ent_keep 7 [] rfl rfl)) (by omega)) ?_
  rintro v F' rfl
  refine ⟨ent_keep 8 [2, 3, 5] rfl rfl, ?_⟩
  refine sd_fact (fun w H => (H.oat (k := 0) rfl).form) ?_
  rintro ⟨A7, c7, rfl, _, _, _⟩
  refine sd_lit [.slice A7 xs.length c7] rfl rfl rfl rfl rfl rfl rfl rfl rfl rfl (ent_keep 8 [2, 3, 5] rfl rfl) fun gl => ?_
  refine sd_append 7 rfl rfl rfl rfl rfl rfl rfl rfl rfl rfl (m := 1) (news := [.slice A7 xs.length c7]) (fun w H => (H.blk (k := 0) rfl).sl rfl (by decide)) (by simp [Value.oneCell']) (by omega) (fun _ => rfl) (fun _ => ent_keep 9 [3, 4, 6] rfl rfl) fun v8 => ?_
  refine sd_fact (fun w H => (H.oat (k := 7) rfl).form) ?_
  rintro ⟨A8, c8, rfl, _, _, _⟩
  ((iterate 2 refine sd_1 rfl (.inl rfl) ?_))
  refine sd_nil (sn_draw2 rfl (ent_nil _) ?_)
  refine sd_st 6 rfl rfl rfl rfl rfl rfl rfl rfl rfl rfl rfl (ent_nil _) ?_
  refine sd_nil ?_
  (refine sn_then ?_)
  refine sw_draw2 flo 9 (pt gs t_p_upload_session [.pointer (some ⟨u.g, 0, none⟩)] :: pt gb t_sl_uint8 [.slice bA xs.length bc] :: pt u.g t_upload_session [.int .i64 u.n, .int .i64 u.b.length, .string u.r, .slice A8 (u.ps.length + 1) c8] :: F) [] rfl (by decide +kernel) (ent_keep 9 [3, 4, 6] rfl rfl) ?_
  (refine sd_l 0 rfl rfl rfl rfl ?_; (iterate 2 refine sd_1 rfl (.inl rfl) ?_); refine sd_l 2 rfl rfl rfl rfl ?_; refine sd_l 1 rfl rfl rfl rfl ?_; refine sd_1 rfl (.inl rfl) ?_; refine sd_2 rfl rfl (by (unfold I64; omega)) ?_; (iterate 2 refine sd_1 rfl (.inl rfl) ?_))
  refine sd_nil (sn_draw2 rfl (ent_nil _) ?_)
  refine sd_st 6 rfl rfl rfl rfl rfl rfl rfl rfl rfl rfl rfl (ent_nil _) ?_
  refine sd_nil ?_
  (refine sn_then ?_; refine sw_region ?_; refine so_l 3 rfl rfl rfl ?_; (iterate 2 refine so_1 rfl ?_); refine so_l 6 rfl rfl rfl ?_; refine so_s1 5 rfl rfl rfl rfl ?_; refine so_nil ?_)
  obtain ⟨u', hu'⟩ : ∃ u' : Us, u' = ⟨u.g, u.n, u.r, .slice A8 (u.ps.length + 1) c8, u.ps ++ [(.slice A7 xs.length c7, xs)]⟩ := ⟨_, rfl⟩
  have hrow : row t_sl_uint8 1 (.slice A8 (u.ps.length + 1) c8) (u.ps.length + 1) (u.ps.map (·.1) ++ [.slice A7 xs.length c7]) = rP u'.pv u'.ps := by rw [hu']; simp [rP]
  have hbl : u'.b.length = u.b.length + xs.length := by rw [hu']; simp [Us.b]
  have hus : [.int .i64 u.n, .int .i64 ((u.b.length : Int) + (xs.length : Int)), .string u.r, .slice A8 (u.ps.length + 1) c8] = usC u' := by rw [usC, hbl, hu']; simp
  have hg : u.g = u'.g := by rw [hu']
  rw [hrow, hus]
  have hsn : (psF u'.ps).Perm ([rB (.slice A7 xs.length c7) xs] ++ psF u.ps) := by rw [hu']; exact psF_snoc
  refine sn_end rfl .nil ((ent_keep 9 [1, 8, 2, 3, 4, 5, 6, 7] rfl rfl).trans ((ent_in (A := psF u'.ps) (B := [rB (.slice A7 xs.length c7) xs]) (C := psF u.ps) hsn).trans (ent_keep 7 [1, 2, 3, 4, 5, 6, 0] rfl rfl))) ?_
  refine ⟨.slice A7 xs.length c7, .slice A8 (u.ps.length + 1) c8, ?_⟩
  rw [← hu', hg]; rfl
end
end Go.Proofs.Ytjfileaidgknjaa
/- Uploads, part ten: Write. Conditions: none. -/
namespace Go.Proofs.Ytjfileaidgknjaa
open Go Go.Eng Go.RowKit

section
variable {b : World} {F : List SP} {va : Value}
theorem Write11_bad {gf gs gb gz : Nat} {u : Us} {z f : Int} {vb : Value} (hf : f ≠ 0) :
    SCD Try.prog n_p_upload_Table_Write_1_1 [.pointer (some ⟨gf, 0, none⟩), .pointer (some ⟨gs, 0, none⟩), .pointer (some ⟨gb, 0, none⟩), .pointer (some ⟨gz, 0, none⟩)] b (wrF gf gs gb gz f u.g vb z (usP u ++ F))
      (fun _ F' => F' = wrF gf gs gb gz f u.g vb u.b.length (usP u ++ F)) := by
  refine enterSD F_p_upload_Table_Write_1_1 rfl rfl rfl ?_
  ((iterate 2 refine sw_seq ?_); refine sw_region ?_; refine so_l 0 rfl rfl rfl ?_; refine so_1 rfl ?_; refine so_nil ?_; refine sn_then ?_)
  refine sw_if rfl (fun h => absurd h hf) (fun _ => ?_)
  (refine sw_skip ?_; refine sn_then ?_; refine sw_region ?_; refine so_l 1 rfl rfl rfl ?_; (iterate 2 refine so_1 rfl ?_); refine so_l 4 rfl rfl rfl ?_; refine so_s1 3 rfl rfl rfl rfl ?_; refine so_nil ?_)
  refine sn_end rfl .nil (Ent.refl _) ?_
  rfl
abbrev w1F (gb gz goff : Nat) (vb : Value) (z off : Int) (F : List SP) : List SP := pt gb t_sl_uint8 [vb] :: pt gz t_int [.int .i64 z] :: pt goff t_int [.int .i64 off] :: F
theorem Write1_S {gb gz goff : Nat} {i z off : Int} {u : Us} {vb : Value} {xs : List Int} (hb : ∀ w, Sat b F w → VL (Value.int .u8) w vb xs) (hxl : xs.length ≤ 1000000) (hu : u.b.length ≤ 4096) (h2 : u.ps.length < 100000) :
    SC Try.prog n_p_upload_Table_Write_1 [.int .i64 i, .pointer (some ⟨u.g, 0, none⟩), .pointer (some ⟨gb, 0, none⟩), .pointer (some ⟨gz, 0, none⟩), .pointer (some ⟨goff, 0, none⟩)] b (w1F gb gz goff vb z off (usP u ++ F))
      (fun v F' => if off ≠ u.b.length then v = .int .i64 13 ∧ F' = w1F gb gz goff vb u.b.length off (usP u ++ F)
        else if (4096 : Int) < u.b.length + xs.length then v = .int .i64 4 ∧ F' = w1F gb gz goff vb u.b.length off (usP u ++ F)
        else v = .int .i64 0 ∧ ∃ w pv', F' = w1F gb gz goff vb (u.b.length + xs.length) off (usP ⟨u.g, u.n, u.r, pv', u.ps ++ [(w, xs)]⟩ ++ F)) := by
  refine enterSM F_p_upload_Table_Write_1 rfl rfl rfl ?_
  refine sw_fact (fun w H => (hb w (H.ent (ent_keep 6 [] rfl rfl))).form) ?_
  rintro ⟨bA, bc, rfl, b1, b2, b3, b4⟩
  (refine sw_seq ?_; refine sw_region ?_)
  refine so_box rfl rfl rfl rfl rfl fun g6 => ?_
  skip
  refine so_new rfl rfl rfl rfl rfl fun g7 => ?_
  (refine so_nil ?_; refine sn_then ?_; refine sw_seq ?_; refine sw_region ?_; refine so_1 rfl ?_)
  refine so_deferN rfl rfl ?_
  (refine so_nil ?_; refine sn_then ?_; refine sw_seq ?_; refine sw_block ?_; refine sw_seq ?_)
  refine sw_draw flo _ (by decide +kernel) (Ent.refl _) ?_
  (refine sd_l 4 rfl rfl rfl rfl ?_; refine sd_l 1 rfl rfl rfl rfl ?_; (iterate 2 refine sd_1 rfl (.inl rfl) ?_); refine sd_l 5 rfl rfl rfl rfl ?_; (iterate 2 refine sd_1 rfl (.inl rfl) ?_))
  refine sd_nil ?_
  (refine sn_then ?_)
  refine sw_ifn rfl (fun h => ?_) (fun h => ?_)
  · (refine sw_seq ?_; refine sw_region ?_; refine so_s1 0 rfl rfl rfl rfl ?_; refine so_nil ?_; refine sn_then ?_; refine sw_ret ?_; refine sn_block_ret ?_; refine sn_then_ret ?_)
    refine sn_retD rfl ((Write11_bad (gf := g7) (gs := g6) (gb := gb) (gz := gz) (u := u) (z := z) (f := 13) (F := pt goff t_int [.int .i64 off] :: F) (vb := .slice bA xs.length bc) (by decide)).ent (ent_keep 8 [0, 1, 2, 3, 5, 6, 7, 4] rfl rfl)) ?_
    rintro v F' rfl
    refine ⟨_, _, .cell 0 rfl rfl rfl rfl rfl .nil, ent_keep 8 [2, 3, 7, 4, 5, 6] rfl rfl, ?_⟩
    rw [if_pos h]
    exact ⟨rfl, rfl⟩
  · have h' : ¬ off ≠ (u.b.length : Int) := by simpa using h
    (refine sw_seq ?_)
    refine sw_draw flo _ (by decide +kernel) (Ent.refl _) ?_
    (refine sd_l 1 rfl rfl rfl rfl ?_; (iterate 2 refine sd_1 rfl (.inl rfl) ?_); refine sd_l 5 rfl rfl rfl rfl ?_; refine sd_l 2 rfl rfl rfl rfl ?_; refine sd_1 rfl (.inl rfl) ?_; refine sd_2 rfl rfl (by (unfold I64; omega)) ?_; (iterate 2 refine sd_1 rfl (.inl rfl) ?_))
    refine sd_nil ?_
    (refine sn_then ?_)
    refine sw_if rfl (fun h4 => ?_) (fun h4 => ?_)
    · (refine sw_seq ?_; refine sw_region ?_; refine so_s1 0 rfl rfl rfl rfl ?_; refine so_nil ?_; refine sn_then ?_; refine sw_ret ?_; refine sn_block_ret ?_; refine sn_then_ret ?_)
      refine sn_retD rfl ((Write11_bad (gf := g7) (gs := g6) (gb := gb) (gz := gz) (u := u) (z := z) (f := 4) (F := pt goff t_int [.int .i64 off] :: F) (vb := .slice bA xs.length bc) (by decide)).ent (ent_keep 8 [0, 1, 2, 3, 5, 6, 7, 4] rfl rfl)) ?_
      rintro v F' rfl
      refine ⟨_, _, .cell 0 rfl rfl rfl rfl rfl .nil, ent_keep 8 [2, 3, 7, 4, 5, 6] rfl rfl, ?_⟩
      rw [if_neg h', if_pos h4]
      exact ⟨rfl, rfl⟩
    · (refine sw_skip ?_; refine sn_block ?_; refine sn_then ?_; refine sw_seq ?_; refine sw_region ?_; refine so_s1 0 rfl rfl rfl rfl ?_; refine so_nil ?_; refine sn_then ?_; refine sw_ret ?_)
      refine sn_retD rfl ((Write11_ok (gf := g7) (gs := g6) (gb := gb) (gz := gz) (u := u) (z := z) (xs := xs) (F := pt goff t_int [.int .i64 off] :: F) (vb := .slice bA xs.length bc) (up hb (ent_keep 1 [] rfl rfl)) (by omega) h2).ent (ent_keep 8 [0, 1, 2, 3, 5, 6, 7, 4] rfl rfl)) ?_
      rintro v F' ⟨w', pv', rfl⟩
      refine ⟨_, _, .cell 0 rfl rfl rfl rfl rfl .nil, ent_keep 8 [2, 3, 7, 4, 5, 6] rfl rfl, ?_⟩
      rw [if_neg h', if_neg h4]
      exact ⟨rfl, w', pv', rfl⟩
end
end Go.Proofs.Ytjfileaidgknjaa
/- Uploads, part eleven: Write. Conditions: none. -/
namespace Go.Proofs.Ytjfileaidgknjaa
open Go Go.Eng Go.RowKit

/-- A session behind a write. -/
structure Grew (u u' : Us) (xs : List Int) : Prop where
  g : u'.g = u.g
  n : u'.n = u.n
  r : u'.r = u.r
  b : u'.b = u.b ++ xs
  ps : u'.ps.length = u.ps.length + 1
theorem usK_set {L : List Us} {i : Nat} {u' : Us} (hi : i < L.length) (hg : u'.g = L[i].g) : usK (L.set i u') = usK L := by
  simp only [usK, List.map_set, hg]
  apply List.ext_getElem?
  intro j
  rw [List.getElem?_set]
  split
  · rename_i e; subst e; simp [hi]
  · rfl
theorem usF_set {L : List Us} {i : Nat} {u' : Us} (hi : i < L.length) : (usF (L.set i u')).Perm (usP u' ++ usF (L.eraseIdx i)) := by
  rw [List.set_eq_take_append_cons_drop, if_pos hi, List.eraseIdx_eq_take_drop_succ]
  exact usF_at
section
variable {b : World} {F : List SP} {g : Nat} {w nx : Int} {A : Option Addr} {c n : Nat} {L : List Us}
theorem Write1_at {gb gz goff i : Nat} {z off : Int} {vb : Value} {xs : List Int} (hb : ∀ w, Sat b F w → VL (Value.int .u8) w vb xs) (hxl : xs.length ≤ 1000000) (hi : i < L.length) (ho : L[i].b.length ≤ 4096) (h2 : L[i].ps.length < 100000) :
    SC Try.prog n_p_upload_Table_Write_1 [.int .i64 i, .pointer (some ⟨L[i].g, 0, none⟩), .pointer (some ⟨gb, 0, none⟩), .pointer (some ⟨gz, 0, none⟩), .pointer (some ⟨goff, 0, none⟩)] b (tbU g w nx A c n L (w1F gb gz goff vb z off F))
      (fun v F' => if off ≠ L[i].b.length then v = .int .i64 13 ∧ F' = tbU g w nx A c n L (w1F gb gz goff vb L[i].b.length off F)
        else if (4096 : Int) < L[i].b.length + xs.length then v = .int .i64 4 ∧ F' = tbU g w nx A c n L (w1F gb gz goff vb L[i].b.length off F)
        else v = .int .i64 0 ∧ ∃ u', Grew L[i] u' xs ∧ F' = tbU g w nx A c n (L.set i u') (w1F gb gz goff vb (L[i].b.length + xs.length) off F)) := by
  refine ((Write1_S (F := all (usF (L.eraseIdx i)) :: pt g t_upload_Table [.int .i64 w, .int .i64 nx, .slice A n c] :: usR A c n L :: F) (up hb (ent_keep 3 [] rfl rfl)) hxl ho h2).ent ((ent_keep 6 [2, 0, 1, 3, 4, 5] rfl rfl).trans ((ent_out (B := usP L[i]) (usF_erase hi)).trans (ent_keep 9 [6, 7, 8, 0, 1, 2, 3, 4, 5] rfl rfl)))).out ?_
  intro v F' hR
  have back : ∀ {z' : Int}, Ent (w1F gb gz goff vb z' off (usP L[i] ++ (all (usF (L.eraseIdx i)) :: pt g t_upload_Table [.int .i64 w, .int .i64 nx, .slice A n c] :: usR A c n L :: F))) (tbU g w nx A c n L (w1F gb gz goff vb z' off F)) := fun {z'} =>
    (ent_keep 9 [3, 4, 5, 6, 0, 1, 2, 7, 8] rfl rfl).trans ((ent_in (A := usF L) (B := usP L[i]) (usF_erase hi)).trans (ent_keep 6 [4, 5, 0, 1, 2, 3] rfl rfl))
  by_cases h : off ≠ (L[i].b.length : Int)
  · rw [if_pos h] at hR
    obtain ⟨rfl, rfl⟩ := hR
    exact ⟨_, back, by rw [if_pos h]; exact ⟨rfl, rfl⟩⟩
  rw [if_neg h] at hR
  by_cases h4 : (4096 : Int) < L[i].b.length + xs.length
  · rw [if_pos h4] at hR
    obtain ⟨rfl, rfl⟩ := hR
    exact ⟨_, back, by rw [if_neg h, if_pos h4]; exact ⟨rfl, rfl⟩⟩
  rw [if_neg h4] at hR
  obtain ⟨rfl, w', pv', rfl⟩ := hR
  obtain ⟨u', hu'⟩ : ∃ u' : Us, u' = ⟨L[i].g, L[i].n, L[i].r, pv', L[i].ps ++ [(w', xs)]⟩ := ⟨_, rfl⟩
  have hg : Grew L[i] u' xs := by
    rw [hu']; exact ⟨rfl, rfl, rfl, by simp [Us.b], by simp⟩
  rw [← hu']
  refine ⟨tbU g w nx A c n (L.set i u') (w1F gb gz goff vb (L[i].b.length + xs.length) off F), ?_, by rw [if_neg h, if_neg h4]; exact ⟨rfl, u', hg, rfl⟩⟩
  have hk := usK_set hi hg.g
  refine ((ent_keep 9 [3, 4, 5, 6, 0, 1, 2, 7, 8] rfl rfl).trans ((ent_in (A := usF (L.set i u')) (B := usP u') (usF_set hi)).trans (ent_keep 6 [4, 5, 0, 1, 2, 3] rfl rfl))).trans ?_
  show Ent (pt g t_upload_Table _ :: row t_p_upload_session 1 (.slice A n c) n (usK L) :: _) (pt g t_upload_Table _ :: row t_p_upload_session 1 (.slice A n c) n (usK (L.set i u')) :: _)
  rw [hk]; exact Ent.refl _
theorem uWrite_no {x off : Int} {vb : Value} {xs : List Int} (hb : ∀ w, Sat b F w → VL (Value.int .u8) w vb xs) (hw : w ≠ 0) (hn : L.length = n) (h8 : n ≤ 1000) (hs : L.Pairwise (fun a c => a.n < c.n)) (hx : ∀ u ∈ L, u.n ≠ x) : SC Try.prog n_p_upload_Table_Write [.pointer (some ⟨g, 0, none⟩), .int .i64 x, .int .i64 off, vb] b (tbU g w nx A c n L F) (fun v F' => v = .tuple ⟨[.int .i64 0, .int .i64 12]⟩ ∧ F' = tbU g w nx A c n L F) := by
  refine enterS F_p_upload_Table_Write rfl rfl rfl ?_
  refine sw_fact (fun w H => (hb w (H.ent (ent_keep 3 [] rfl rfl))).form) ?_
  rintro ⟨bA, bc, rfl, b1, b2, b3, b4⟩
  (refine sw_seq ?_; refine sw_region ?_)
  refine so_box rfl rfl rfl rfl rfl fun g6 => ?_
  skip
  refine so_box rfl rfl rfl rfl rfl fun g7 => ?_
  skip
  refine so_new rfl rfl rfl rfl rfl fun g8 => ?_
  (refine so_1 rfl ?_; refine so_nil ?_; refine sn_then ?_; refine sw_seq ?_; refine sw_region ?_; (iterate 3 refine so_1 rfl ?_))
  refine so_call rfl rfl rfl ((with_no hw hn h8 hs hx).ent (ent_keep 6 [3, 4, 5, 0, 1, 2] rfl rfl)) ?_
  rintro v F' ⟨rfl, rfl⟩
  (refine so_1 rfl ?_; refine so_nil ?_; refine sn_then ?_; refine sw_seq ?_; refine sw_region ?_; refine so_l 3 rfl rfl rfl ?_; refine so_1 rfl ?_; refine so_s1 3 rfl rfl rfl rfl ?_; refine so_1 rfl ?_; refine so_nil ?_; refine sn_then ?_; refine sw_ret ?_)
  refine sn_ret rfl (.cell 3 rfl rfl rfl rfl rfl (.tmp rfl .nil)) (ent_keep 6 [0, 1, 2] rfl rfl) ?_
  exact ⟨rfl, rfl⟩
theorem uWrite_yes {x off : Int} {vb : Value} {xs : List Int} {i : Nat} (hb : ∀ w, Sat b F w → VL (Value.int .u8) w vb xs) (hxl : xs.length ≤ 1000000) (hw : w ≠ 0) (hn : L.length = n) (h8 : n ≤ 1000) (hs : L.Pairwise (fun a c => a.n < c.n)) (hi : i < L.length) (hx : L[i].n = x) (ho : L[i].b.length ≤ 4096) (h2 : L[i].ps.length < 100000) :
    SC Try.prog n_p_upload_Table_Write [.pointer (some ⟨g, 0, none⟩), .int .i64 x, .int .i64 off, vb] b (tbU g w nx A c n L F)
      (fun v F' => if off ≠ L[i].b.length then v = .tuple ⟨[.int .i64 L[i].b.length, .int .i64 13]⟩ ∧ F' = tbU g w nx A c n L F
        else if (4096 : Int) < L[i].b.length + xs.length then v = .tuple ⟨[.int .i64 L[i].b.length, .int .i64 4]⟩ ∧ F' = tbU g w nx A c n L F
        else v = .tuple ⟨[.int .i64 (L[i].b.length + xs.length), .int .i64 0]⟩ ∧ ∃ u', Grew L[i] u' xs ∧ F' = tbU g w nx A c n (L.set i u') F) := by
  refine enterS F_p_upload_Table_Write rfl rfl rfl ?_
  refine sw_fact (fun w H => (hb w (H.ent (ent_keep 3 [] rfl rfl))).form) ?_
  rintro ⟨bA, bc, rfl, b1, b2, b3, b4⟩
  (refine sw_seq ?_; refine sw_region ?_)
  refine so_box rfl rfl rfl rfl rfl fun g6 => ?_
  skip
  refine so_box rfl rfl rfl rfl rfl fun g7 => ?_
  skip
  refine so_new rfl rfl rfl rfl rfl fun g8 => ?_
  (refine so_1 rfl ?_; refine so_nil ?_; refine sn_then ?_; refine sw_seq ?_; refine sw_region ?_; (iterate 3 refine so_1 rfl ?_))
  refine so_call rfl rfl rfl ((with_yes hw hn h8 hs hi hx (Write1_at (gb := g7) (gz := g8) (goff := g6) hb hxl hi ho h2)).ent (ent_keep 6 [3, 4, 5, 1, 0, 2] rfl rfl)) ?_
  intro v F' hR
  by_cases h : off ≠ (L[i].b.length : Int)
  · rw [if_pos h] at hR
    obtain ⟨rfl, rfl⟩ := hR
    (refine so_1 rfl ?_; refine so_nil ?_; refine sn_then ?_; refine sw_seq ?_; refine sw_region ?_; refine so_l 4 rfl rfl rfl ?_; refine so_1 rfl ?_; refine so_s1 4 rfl rfl rfl rfl ?_; refine so_1 rfl ?_; refine so_nil ?_; refine sn_then ?_; refine sw_ret ?_)
    refine sn_ret rfl (.cell 4 rfl rfl rfl rfl rfl (.tmp rfl .nil)) (ent_keep 6 [0, 1, 2] rfl rfl) ?_
    rw [if_pos h]; exact ⟨rfl, rfl⟩
  rw [if_neg h] at hR
  by_cases h4 : (4096 : Int) < L[i].b.length + xs.length
  · rw [if_pos h4] at hR
    obtain ⟨rfl, rfl⟩ := hR
    (refine so_1 rfl ?_; refine so_nil ?_; refine sn_then ?_; refine sw_seq ?_; refine sw_region ?_; refine so_l 4 rfl rfl rfl ?_; refine so_1 rfl ?_; refine so_s1 4 rfl rfl rfl rfl ?_; refine so_1 rfl ?_; refine so_nil ?_; refine sn_then ?_; refine sw_ret ?_)
    refine sn_ret rfl (.cell 4 rfl rfl rfl rfl rfl (.tmp rfl .nil)) (ent_keep 6 [0, 1, 2] rfl rfl) ?_
    rw [if_neg h, if_pos h4]; exact ⟨rfl, rfl⟩
  rw [if_neg h4] at hR
  obtain ⟨rfl, u', hg, rfl⟩ := hR
  (refine so_1 rfl ?_; refine so_nil ?_; refine sn_then ?_; refine sw_seq ?_; refine sw_region ?_; refine so_l 4 rfl rfl rfl ?_; refine so_1 rfl ?_; refine so_s1 4 rfl rfl rfl rfl ?_; refine so_1 rfl ?_; refine so_nil ?_; refine sn_then ?_; refine sw_ret ?_)
  refine sn_ret rfl (.cell 4 rfl rfl rfl rfl rfl (.tmp rfl .nil)) (ent_keep 6 [0, 1, 2] rfl rfl) ?_
  rw [if_neg h, if_neg h4]; exact ⟨rfl, u', hg, rfl⟩
end
end Go.Proofs.Ytjfileaidgknjaa
/- Uploads, part twelve: Start. Conditions: none. -/
namespace Go.Proofs.Ytjfileaidgknjaa
open Go Go.Eng Go.RowKit

instance : EqT Try.prog t_api_Fault := ⟨by kernel_rfl⟩
set_option maxRecDepth 100000 in
theorem eq_fault (a b c d : Int) (w : World) : (Op.equalIn 10000 t_api_Fault (ftV (a, b)) (ftV (c, d))).run Try.prog w = .ok (decide (a = c ∧ b = d)) w := by
  have hS : Try.prog.underlying t_api_Fault = some (.struct (Try.prog.fieldsOf t_api_Fault)) := by kernel_rfl
  have hp : Try.prog.stoodInHeld t_api_Fault = false := by kernel_rfl
  have hf : ∃ f g : Field, (Try.prog.fieldsOf t_api_Fault).toList = [f, g] ∧ f.name ≠ "_" ∧ g.name ≠ "_" ∧ f.type = t_api_Errno ∧ g.type = t_int ∧ f.offset = 0 ∧ g.offset = 1 :=
    ⟨_, _, rfl, by decide, by decide, rfl, rfl, rfl, rfl⟩
  obtain ⟨f, g, h1, h2, h3, h4, h5, h6, h7⟩ := hf
  have ui : Try.prog.underlying t_int = some (.int .i64) := by kernel_rfl
  have ue : Try.prog.underlying t_api_Errno = some (.int .i64) := by kernel_rfl
  rw [show (10000 : Nat) = 9998 + 1 + 1 from rfl, run_equalIn_struct w 9999 t_api_Fault _ _ hS hp, h1]
  have p0 : ∀ (x y : Int), (part t_api_Errno #[.int .i64 x, .int .i64 y] 0).run Try.prog w = .ok (.int .i64 x) w := fun x y => by simp [part, isAgg, run_underlying ue]
  have p1 : ∀ (x y : Int), (part t_int #[.int .i64 x, .int .i64 y] 1).run Try.prog w = .ok (.int .i64 y) w := fun x y => by simp [part, isAgg, run_underlying ui]
  have q : ∀ x y : Int, (Op.equalIn 9999 t_int (.int .i64 x) (.int .i64 y)).run Try.prog w = .ok (x == y) w := fun x y => run_equalIn_int w 9998 t_int .i64 .i64 x y ui
  have q0 : ∀ x y : Int, (Op.equalIn 9999 t_api_Errno (.int .i64 x) (.int .i64 y)).run Try.prog w = .ok (x == y) w := fun x y => run_equalIn_int w 9998 t_api_Errno .i64 .i64 x y ue
  simp only [Op.eqFields, h2, h3, h4, h5, h6, h7, ne_eq, not_false_eq_true, if_true, Sem.run_bind, p0, p1, q, q0, Result.andThen_ok]
  by_cases e1 : a = c <;> by_cases e2 : b = d <;> simp [e1, e2, p1, q]
section
variable {b : World} {F : List SP} {g : Nat} {w nx : Int} {A : Option Addr} {c n : Nat} {L : List Us}
def startE (L : List Int) (k : Nat) (nx : Int) : Int := if repoF L ≠ (0, 0) then 7 else if 8 ≤ k then 10 else if 1048576 < nx then 21 else 0
theorem usF_snoc {u : Us} : (usF (L ++ [u])).Perm (usP u ++ usF L) := by
  have := usF_at (l1 := L) (l2 := []) (u := u)
  rwa [List.append_nil] at this
theorem uStart_S {s : ByteArray} (hw : w ≠ 0) (hn : L.length = n) (h8 : n ≤ 1000) (hnx : 0 ≤ nx) : SC Try.prog n_p_upload_Table_Start [.pointer (some ⟨g, 0, none⟩), .string s] b (tbU g w nx A c n L F)
    (fun v F' => if startE (strI s) n nx = 0 then v = .tuple ⟨[.int .i64 nx, .int .i64 0]⟩ ∧ ∃ A' c' gu, F' = tbU g w (nx + 1) A' c' (n + 1) (L ++ [⟨gu, nx, s, .slice none 0 0, []⟩]) F
      else v = .tuple ⟨[.int .i64 0, .int .i64 (startE (strI s) n nx)]⟩ ∧ F' = tbU g w nx A c n L F) := by
  refine enterS F_p_upload_Table_Start rfl rfl rfl ?_
  (refine sw_seq ?_; refine sw_region ?_; (iterate 2 refine so_1 rfl ?_); refine so_nil ?_; refine sn_then ?_; refine sw_seq ?_; refine sw_block ?_; refine sw_seq ?_; refine sw_region ?_; refine so_1 rfl ?_)
  refine so_callE rfl rfl rfl (unone_S) ?_
  rw [decide_eq_false hw]
  (refine so_1 rfl ?_; refine so_nil ?_; refine sn_then ?_; refine sw_cond_f rfl ?_; refine sw_seq ?_; refine sw_region ?_; refine so_1 rfl ?_)
  refine so_callE rfl rfl rfl (Repo_S) ?_
  (refine so_1 rfl ?_)
  refine so_pu rfl (pu_neA rfl rfl (eq_fault (repoF (strI s)).1 (repoF (strI s)).2 0 0)) rfl ?_
  by_cases hr : repoF (strI s) = (0, 0)
  · rw [hr]
    (refine so_1 rfl ?_; refine so_nil ?_; refine sn_then ?_; refine sw_cond_f rfl ?_; refine sw_seq ?_; refine sw_region ?_; (iterate 3 refine so_1 rfl ?_); refine so_l 0 rfl rfl rfl ?_; (iterate 3 refine so_1 rfl ?_); refine so_nil ?_; refine sn_then ?_)
    have hr' : ¬ repoF (strI s) ≠ (0, 0) := by simp [hr]
    refine sw_if rfl (fun h1 => ?_) (fun h1 => ?_)
    · have e : startE (strI s) n nx = 10 := by rw [startE, if_neg hr', if_pos (by omega)]
      (refine sw_seq ?_; refine sw_region ?_; (iterate 2 refine so_1 rfl ?_); refine so_nil ?_; refine sn_then ?_; refine sw_ret ?_; refine sn_block_ret ?_; refine sn_then_ret ?_)
      refine sn_ret rfl (.tmp rfl (.tmp rfl .nil)) (Ent.refl _) ?_
      rw [e, if_neg (by decide)]; exact ⟨rfl, rfl⟩
    (refine sw_seq ?_; refine sw_region ?_; (iterate 3 refine so_1 rfl ?_); refine so_l 0 rfl rfl rfl ?_; (iterate 2 refine so_1 rfl ?_); refine so_nil ?_; refine sn_then ?_)
    refine sw_if rfl (fun h2 => ?_) (fun h2 => ?_)
    · have e : startE (strI s) n nx = 21 := by rw [startE, if_neg hr', if_neg (by omega), if_pos h2]
      (refine sw_seq ?_; refine sw_region ?_; (iterate 2 refine so_1 rfl ?_); refine so_nil ?_; refine sn_then ?_; refine sw_ret ?_; refine sn_block_ret ?_; refine sn_then_ret ?_)
      refine sn_ret rfl (.tmp rfl (.tmp rfl .nil)) (Ent.refl _) ?_
      rw [e, if_neg (by decide)]; exact ⟨rfl, rfl⟩
    have e : startE (strI s) n nx = 0 := by rw [startE, if_neg hr', if_neg (by omega), if_neg h2]
    (refine sw_skip ?_; refine sn_block ?_; refine sn_then ?_; refine sw_seq ?_; refine sw_region ?_; (iterate 3 refine so_1 rfl ?_); refine so_l 0 rfl rfl rfl ?_; refine so_1 rfl ?_; refine so_nil ?_; refine sn_then ?_; refine sw_seq ?_; refine sw_region ?_; (iterate 3 refine so_1 rfl ?_); refine so_l 0 rfl rfl rfl ?_; refine so_2 rfl (by (unfold I64; omega)) ?_; (iterate 2 refine so_1 rfl ?_); refine so_s1 0 rfl rfl rfl rfl ?_; refine so_nil ?_; refine sn_then ?_; refine sw_seq ?_; refine sw_region ?_; (iterate 4 refine so_1 rfl ?_); refine so_l 0 rfl rfl rfl ?_; (iterate 3 refine so_1 rfl ?_))
    refine so_box rfl rfl rfl rfl rfl fun gu => ?_
    skip
    refine so_lit [.pointer (some ⟨gu, 0, none⟩)] rfl rfl rfl rfl rfl rfl rfl rfl rfl fun gl => ?_
    refine so_append 3 rfl rfl rfl rfl rfl rfl rfl rfl rfl (m := 1) (news := [.pointer (some ⟨gu, 0, none⟩)]) (fun w H => (H.blk (k := 0) rfl).sl rfl (by decide)) (by simp [Value.oneCell']) (by omega) (fun _ => rfl) fun v8 => ?_
    refine so_fact (fun w H => (H.oat (k := 3) rfl).form) ?_
    rintro ⟨A8, c8, rfl, _, _, _⟩
    ((iterate 2 refine so_1 rfl ?_); refine so_s1 2 rfl rfl rfl rfl ?_; refine so_nil ?_; refine sn_then ?_; refine sw_seq ?_; refine sw_region ?_; (iterate 3 refine so_1 rfl ?_); refine so_nil ?_; refine sn_then ?_; refine sw_ret ?_)
    have hrow : usK L ++ [.pointer (some ⟨gu, 0, none⟩)] = usK (L ++ [⟨gu, nx, s, .slice none 0 0, []⟩]) := by simp [usK]
    rw [hrow]
    refine sn_ret rfl (.tmp rfl (.tmp rfl .nil)) ((ent_keep 5 [1, 2, 3, 4] rfl rfl).trans ((ent_row_nil t_sl_uint8 1 rfl).trans ((ent_close (G := [])).trans ((ent_keep 6 [2, 1, 0, 5, 3, 4] rfl rfl).trans ((ent_in (A := usF (L ++ [⟨gu, nx, s, .slice none 0 0, []⟩])) (B := usP ⟨gu, nx, s, .slice none 0 0, []⟩) (C := usF L) usF_snoc).trans (ent_keep 3 [1, 2, 0] rfl rfl)))))) ?_
    rw [e, if_pos rfl]
    exact ⟨rfl, A8, c8, gu, rfl⟩
  · have e : startE (strI s) n nx = 7 := by rw [startE, if_pos hr]
    refine so_know 14 (.bool true) rfl ?_ ?_
    · refine congrArg Value.bool ?_
      have : ¬ ((repoF (strI s)).1 = 0 ∧ (repoF (strI s)).2 = 0) := fun h => hr (Prod.ext h.1 h.2)
      simp [this]
    (refine so_1 rfl ?_; refine so_nil ?_; refine sn_then ?_; refine sw_cond_t rfl ?_; refine sw_seq ?_; refine sw_region ?_; (iterate 2 refine so_1 rfl ?_); refine so_nil ?_; refine sn_then ?_; refine sw_ret ?_; refine sn_block_ret ?_; refine sn_then_ret ?_)
    refine sn_ret rfl (.tmp rfl (.tmp rfl .nil)) (Ent.refl _) ?_
    rw [e, if_neg (by decide)]; exact ⟨rfl, rfl⟩
end
end Go.Proofs.Ytjfileaidgknjaa
/- Uploads, part thirteen: Load. Conditions: none. -/
namespace Go.Proofs.Ytjfileaidgknjaa
open Go Go.Eng Go.RowKit

theorem sl_form {w : World} {sz n : Nat} {v : Value} {cs : List Value} (h : SL w sz v n cs) : ∃ A c, v = .slice A n c ∧ n ≤ c ∧ c ≤ 9223372036854775807 ∧ (A = none → c = 0) ∧ (0 < n → ∃ bk off, A = some ⟨bk, off, none⟩) ∧ cs.length = n * sz := by
  obtain ⟨A, c, h1, h2, h3, h4, h5, h6⟩ := h
  exact ⟨A, c, h1, h3, h4, h5, fun hp => by obtain ⟨bk, off, hA, _⟩ := h6 hp; exact ⟨bk, off, hA⟩, h2⟩
/-- Sessions that came in. -/
structure SLs (W : World) (v : Value) (l : List Ds) : Prop where
  sl : SL W 3 v l.length (flC dsC l)
  bs : ∀ d ∈ l, VL (Value.int .u8) W d.bv d.b
def seOk (nx last : Int) (d : Se) : Prop := last < d.1 ∧ d.1 < nx ∧ d.2.2.length ≤ 4096 ∧ repoF (strI d.2.1) = (0, 0)
instance (nx last : Int) (d : Se) : Decidable (seOk nx last d) := by unfold seOk; infer_instance
def sesOk (nx : Int) : Int → List Se → Bool
  | _, [] => true
  | last, d :: l => decide (seOk nx last d) && sesOk nx d.1 l
def rangeOk (w nx : Int) : Prop := 1 ≤ w ∧ w ≤ 32 ∧ 1 ≤ nx ∧ nx ≤ 1048577
section
variable {b : World} {F : List SP} {w nx : Int} {va : Value} {l : List Ds}
theorem uLoad_range (h : ¬ rangeOk w nx) : SC Try.prog n_upload_Load [.int .i64 w, .int .i64 nx, va] b F (fun v F' => v = .tuple ⟨[.pointer none, .int .i64 3]⟩ ∧ F' = F) := by
  refine enterS F_upload_Load rfl rfl rfl ?_
  (refine sw_seq ?_; refine sw_region ?_; (iterate 2 refine so_1 rfl ?_); refine so_nil ?_; refine sn_then ?_; (iterate 2 refine sw_seq ?_); refine sw_region ?_; (iterate 3 refine so_1 rfl ?_))
  refine so_if 14 rfl (fun h1 => ?_) (fun h1 => ?_)
  · ((iterate 11 refine so_1 rfl ?_); refine so_nil ?_; refine sn_then ?_; refine sw_cond_t rfl ?_; refine sw_seq ?_; refine sw_region ?_; (iterate 2 refine so_1 rfl ?_); refine so_nil ?_; refine sn_then ?_; refine sw_ret ?_; refine sn_then_ret ?_)
    refine sn_ret rfl (.tmp rfl (.tmp rfl .nil)) (Ent.refl _) ?_
    exact ⟨rfl, rfl⟩
  ((iterate 4 refine so_1 rfl ?_))
  refine so_if 18 rfl (fun h2 => ?_) (fun h2 => ?_)
  · ((iterate 7 refine so_1 rfl ?_); refine so_nil ?_; refine sn_then ?_; refine sw_cond_t rfl ?_; refine sw_seq ?_; refine sw_region ?_; (iterate 2 refine so_1 rfl ?_); refine so_nil ?_; refine sn_then ?_; refine sw_ret ?_; refine sn_then_ret ?_)
    refine sn_ret rfl (.tmp rfl (.tmp rfl .nil)) (Ent.refl _) ?_
    exact ⟨rfl, rfl⟩
  ((iterate 4 refine so_1 rfl ?_))
  refine so_if 22 rfl (fun h3 => ?_) (fun h3 => ?_)
  · ((iterate 3 refine so_1 rfl ?_); refine so_nil ?_; refine sn_then ?_; refine sw_cond_t rfl ?_; refine sw_seq ?_; refine sw_region ?_; (iterate 2 refine so_1 rfl ?_); refine so_nil ?_; refine sn_then ?_; refine sw_ret ?_; refine sn_then_ret ?_)
    refine sn_ret rfl (.tmp rfl (.tmp rfl .nil)) (Ent.refl _) ?_
    exact ⟨rfl, rfl⟩
  ((iterate 3 refine so_1 rfl ?_); refine so_nil ?_; refine sn_then ?_)
  refine sw_if rfl (fun h4 => ?_) (fun h4 => ?_)
  · (refine sw_seq ?_; refine sw_region ?_; (iterate 2 refine so_1 rfl ?_); refine so_nil ?_; refine sn_then ?_; refine sw_ret ?_; refine sn_then_ret ?_)
    refine sn_ret rfl (.tmp rfl (.tmp rfl .nil)) (Ent.refl _) ?_
    exact ⟨rfl, rfl⟩
  exact absurd ⟨by omega, by omega, by omega, by omega⟩ h
theorem uLoad_S (h : rangeOk w nx) (hl : ∀ w, Sat b F w → SLs w va l) : SC Try.prog n_upload_Load [.int .i64 w, .int .i64 nx, va] b F
    (fun v F' => if l.length ≤ 8 ∧ sesOk nx 0 (l.map Ds.se) = true then ∃ g A c L, v = .tuple ⟨[.pointer (some ⟨g, 0, none⟩), .int .i64 0]⟩ ∧ L.map Us.se = l.map Ds.se ∧ (∀ u ∈ L, u.ps.length = 1) ∧ F' = tbU g w nx A c L.length L F
      else v = .tuple ⟨[.pointer none, .int .i64 2]⟩ ∧ F' = F) := by
  obtain ⟨r1, r2, r3, r4⟩ := h
  refine enterS F_upload_Load rfl rfl rfl ?_
  refine sw_fact (fun w H => sl_form (hl w H).sl) ?_
  rintro ⟨A0, c0, rfl, q1, q2, q3, q4, _⟩
  (refine sw_seq ?_; refine sw_region ?_; (iterate 2 refine so_1 rfl ?_); refine so_nil ?_; refine sn_then ?_; (iterate 2 refine sw_seq ?_); refine sw_region ?_; (iterate 3 refine so_1 rfl ?_))
  refine so_if 14 rfl (fun h => absurd h (by omega)) (fun _ => ?_)
  ((iterate 4 refine so_1 rfl ?_))
  refine so_if 18 rfl (fun h => absurd h (by omega)) (fun _ => ?_)
  ((iterate 4 refine so_1 rfl ?_))
  refine so_if 22 rfl (fun h => absurd h (by omega)) (fun _ => ?_)
  ((iterate 3 refine so_1 rfl ?_); refine so_nil ?_; refine sn_then ?_)
  refine sw_if rfl (fun h => absurd h (by omega)) (fun _ => ?_)
  (refine sw_skip ?_; refine sn_then ?_; refine sw_seq ?_; refine sw_region ?_; (iterate 3 refine so_1 rfl ?_))
  refine so_box rfl rfl rfl rfl rfl fun g => ?_
  (refine so_1 rfl ?_; refine so_nil ?_; refine sn_then ?_; (iterate 2 refine sw_seq ?_); refine sw_region ?_; (iterate 3 refine so_1 rfl ?_); refine so_nil ?_; refine sn_then ?_)
  refine sw_if rfl (fun h1 => ?_) (fun h1 => ?_)
  · (refine sw_seq ?_; refine sw_region ?_; (iterate 2 refine so_1 rfl ?_); refine so_nil ?_; refine sn_then ?_; refine sw_ret ?_; refine sn_then_ret ?_)
    refine sn_ret rfl (.tmp rfl (.tmp rfl .nil)) (ent_keep 1 [] rfl rfl) ?_
    rw [if_neg (by omega)]; exact ⟨rfl, rfl⟩
  (refine sw_skip ?_; refine sn_then ?_; refine sw_seq ?_; refine sw_region ?_; refine so_1 rfl ?_; refine so_nil ?_; refine sn_then ?_; (iterate 2 refine sw_seq ?_); refine sw_region ?_; (iterate 3 refine so_1 rfl ?_); refine so_nil ?_; refine sn_then ?_; refine sw_block ?_)
  refine sw_loop (S := List Us × Option Addr × Nat × Int) (fun s => [(0, .int .i64 w), (1, .int .i64 nx), (8, .pointer (some ⟨g, 0, none⟩)), (9, .int .i64 s.2.2.2), (33, .slice A0 l.length c0), (34, .int .i64 l.length), (35, .int .i64 s.1.length)]) (fun s => tbU g w nx s.2.1 s.2.2.1 s.1.length s.1 F)
    (fun s => s.1.length ≤ l.length ∧ s.1.map Us.se = (l.take s.1.length).map Ds.se ∧ (∀ u ∈ s.1, u.ps.length = 1) ∧ sesOk nx 0 (l.map Ds.se) = sesOk nx s.2.2.2 ((l.drop s.1.length).map Ds.se)) (fun s => l.length - s.1.length) ([], none, 0, 0) ⟨rfl, rfl, rfl, rfl, rfl, rfl, rfl, trivial⟩
    ((ent_row_nil t_p_upload_session 1 rfl).trans ((ent_close (G := [])).trans (ent_keep 3 [2, 1, 0] rfl rfl))) ⟨Nat.zero_le _, rfl, fun u hu => by simp at hu, rfl⟩ ?_
  rintro ⟨L, A, c, last⟩ ⟨hLn, hse, hps, hok⟩
  dsimp only at hLn hse hps hok ⊢
  (refine sw_seq ?_; refine sw_region ?_; refine so_1 rfl ?_; refine so_nil ?_; refine sn_then ?_; refine sw_seq ?_)
  refine sw_if rfl (fun h2 => ?_) (fun h2 => ?_)
  · have hi : L.length < l.length := by omega
    obtain ⟨gg, oo, rfl⟩ := q4 (by omega)
    have hc : ∀ w, Sat b F w → ∀ j, j < 3 → w.cell? ⟨gg, oo + L.length * 3 + j, none⟩ = (dsC l[L.length])[j]? := fun w H j hj => fl_cell (hl w H).sl (dsC_len l) hi hj
    have hv : ∀ w, Sat b F w → VL (Value.int .u8) w l[L.length].bv l[L.length].b := fun w H => (hl w H).bs _ (List.getElem_mem hi)
    have hdrop : (l.drop L.length).map Ds.se = l[L.length].se :: (l.drop (L.length + 1)).map Ds.se := by rw [List.drop_eq_getElem_cons hi]; rfl
    rw [hdrop] at hok
    have htake : (l.take (L.length + 1)).map Ds.se = (l.take L.length).map Ds.se ++ [l[L.length].se] := by rw [List.take_succ_eq_append_getElem hi, List.map_append, List.map_singleton]
    generalize l[L.length] = d at *
    refine sw_fact (fun w H => (hv w (H.ent (ent_keep 3 [] rfl rfl))).form) ?_
    rintro ⟨A7, c7, hv7, b1, b2, b3, b4⟩
    obtain ⟨dn, dr, dbv, db⟩ := d
    dsimp only at hv7 b1 b4 hv
    subst hv7
    (refine sw_skip ?_; refine sn_then ?_; refine sw_seq ?_; refine sw_block ?_; refine sw_seq ?_; refine sw_region ?_; refine so_2 rfl (by omega) ?_)
    refine so_rd rfl (fun w H => ex_loadN (cs := dsC ⟨dn, dr, .slice A7 db.length c7, db⟩) rfl rfl rfl rfl (fun q hq => by rw [mulz_eq, Int.toNat_natCast]; exact hc w (H.ent (ent_keep 3 [] rfl rfl)) q hq)) rfl ?_
    skip
    refine so_new rfl rfl rfl rfl rfl fun g11 => ?_
    (refine so_s1 0 rfl rfl rfl rfl ?_; refine so_nil ?_; refine sn_then ?_; (iterate 2 refine sw_seq ?_); refine sw_region ?_; refine so_1 rfl ?_; refine so_l 0 rfl rfl rfl ?_; (iterate 3 refine so_1 rfl ?_))
    have bad : ¬ seOk nx last (dn, dr, db) → ¬ (l.length ≤ 8 ∧ sesOk nx 0 (l.map Ds.se) = true) := by
      rintro hb ⟨_, h⟩
      rw [hok] at h
      simp only [Ds.se, sesOk, Bool.and_eq_true] at h
      exact hb (of_decide_eq_true h.1)
    refine so_if 43 rfl (fun k1 => ?_) (fun k1 => ?_) <;> dsimp only at k1
    · ((iterate 18 refine so_1 rfl ?_); refine so_nil ?_; refine sn_then ?_; refine sw_cond_t rfl ?_; refine sw_seq ?_; refine sw_region ?_; (iterate 2 refine so_1 rfl ?_); refine so_nil ?_; refine sn_then ?_; refine sw_ret ?_; refine sn_then_ret ?_; refine sn_block_ret ?_; refine sn_then_ret ?_; refine sn_loop_ret ?_; refine sn_block_ret ?_; refine sn_then_ret ?_)
      refine sn_ret rfl (.tmp rfl (.tmp rfl .nil)) (ent_keep 4 [] rfl rfl) ?_
      rw [if_neg (bad fun h => by have := h.1; dsimp only at this; omega)]; exact ⟨rfl, rfl⟩
    (refine so_1 rfl ?_; refine so_l 0 rfl rfl rfl ?_; (iterate 4 refine so_1 rfl ?_))
    refine so_if 49 rfl (fun k2 => ?_) (fun k2 => ?_) <;> dsimp only at k2
    · ((iterate 12 refine so_1 rfl ?_); refine so_nil ?_; refine sn_then ?_; refine sw_cond_t rfl ?_; refine sw_seq ?_; refine sw_region ?_; (iterate 2 refine so_1 rfl ?_); refine so_nil ?_; refine sn_then ?_; refine sw_ret ?_; refine sn_then_ret ?_; refine sn_block_ret ?_; refine sn_then_ret ?_; refine sn_loop_ret ?_; refine sn_block_ret ?_; refine sn_then_ret ?_)
      refine sn_ret rfl (.tmp rfl (.tmp rfl .nil)) (ent_keep 4 [] rfl rfl) ?_
      rw [if_neg (bad fun h => by have := h.2.1; dsimp only at this; omega)]; exact ⟨rfl, rfl⟩
    (refine so_1 rfl ?_; refine so_l 0 rfl rfl rfl ?_; (iterate 4 refine so_1 rfl ?_))
    refine so_if 55 rfl (fun k3 => ?_) (fun k3 => ?_)
    · ((iterate 6 refine so_1 rfl ?_); refine so_nil ?_; refine sn_then ?_; refine sw_cond_t rfl ?_; refine sw_seq ?_; refine sw_region ?_; (iterate 2 refine so_1 rfl ?_); refine so_nil ?_; refine sn_then ?_; refine sw_ret ?_; refine sn_then_ret ?_; refine sn_block_ret ?_; refine sn_then_ret ?_; refine sn_loop_ret ?_; refine sn_block_ret ?_; refine sn_then_ret ?_)
      refine sn_ret rfl (.tmp rfl (.tmp rfl .nil)) (ent_keep 4 [] rfl rfl) ?_
      rw [if_neg (bad fun h => by have := h.2.2.1; dsimp only at this; omega)]; exact ⟨rfl, rfl⟩
    (refine so_1 rfl ?_; refine so_l 0 rfl rfl rfl ?_)
    refine so_callE rfl rfl rfl (Repo_S) ?_
    (refine so_1 rfl ?_)
    refine so_pu rfl (pu_neA rfl rfl (eq_fault (repoF (strI dr)).1 (repoF (strI dr)).2 0 0)) rfl ?_
    by_cases hr : repoF (strI dr) = (0, 0)
    · have hgood : seOk nx last (dn, dr, db) := ⟨by dsimp only; omega, by dsimp only; omega, by dsimp only; omega, hr⟩
      rw [hr]
      (refine so_1 rfl ?_; refine so_nil ?_; refine sn_then ?_; refine sw_cond_f rfl ?_; refine sw_skip ?_; refine sn_then ?_; refine sw_seq ?_; refine sw_region ?_; refine so_1 rfl ?_; refine so_l 0 rfl rfl rfl ?_; refine so_1 rfl ?_; refine so_nil ?_; refine sn_then ?_)
      refine sw_draw2 flo 22 (pt g11 t_api_Session (ssC dn dr (.slice A7 db.length c7)) :: pt g t_upload_Table [.int .i64 w, .int .i64 nx, .slice A L.length c] :: F) [] rfl (by decide +kernel) (ent_keep 4 [0, 1] rfl rfl) ?_
      ((iterate 4 refine sd_1 rfl (.inl rfl) ?_); refine sd_l 1 rfl rfl rfl rfl ?_; refine sd_1 rfl (.inl rfl) ?_; refine sd_l 0 rfl rfl rfl rfl ?_; refine sd_1 rfl (.inl rfl) ?_; refine sd_l 0 rfl rfl rfl rfl ?_; (iterate 2 refine sd_1 rfl (.inl rfl) ?_); refine sd_l 0 rfl rfl rfl rfl ?_; refine sd_1 rfl (.inl rfl) ?_; refine sd_l 0 rfl rfl rfl rfl ?_)
      refine sd_call rfl rfl rfl rfl (Clone_b (up hv (ent_keep 4 [] rfl rfl)) (by omega)) ?_
      rintro v F' rfl
      refine ⟨ent_keep 5 [1, 2] rfl rfl, ?_⟩
      refine sd_fact (fun w H => (H.oat (k := 0) rfl).form) ?_
      rintro ⟨A6, c6, rfl, _, _, _⟩
      refine sd_lit [.slice A6 db.length c6] rfl rfl rfl rfl rfl rfl rfl rfl rfl rfl (ent_keep 5 [1, 2] rfl rfl) fun gl => ?_
      (refine sd_1 rfl (.inl rfl) ?_)
      refine sd_box rfl rfl rfl rfl rfl rfl (ent_keep 6 [2, 3] rfl rfl) fun gu => ?_
      refine sd_lit [.pointer (some ⟨gu, 0, none⟩)] rfl rfl rfl rfl rfl rfl rfl rfl rfl rfl (ent_keep 7 [3, 4] rfl rfl) fun g2l => ?_
      refine sd_append 6 rfl rfl rfl rfl rfl rfl rfl rfl rfl rfl (m := 1) (news := [.pointer (some ⟨gu, 0, none⟩)]) (fun w H => (H.blk (k := 0) rfl).sl rfl (by decide)) (by simp [Value.oneCell']) (by omega) (fun _ => rfl) (fun _ => ent_keep 8 [4, 5] rfl rfl) fun v8 => ?_
      refine sd_fact (fun w H => (H.oat (k := 6) rfl).form) ?_
      rintro ⟨A8, c8, rfl, _, _, _⟩
      ((iterate 2 refine sd_1 rfl (.inl rfl) ?_))
      refine sd_nil (sn_draw2 rfl (ent_nil _) ?_)
      refine sd_st 5 rfl rfl rfl rfl rfl rfl rfl rfl rfl rfl rfl (ent_nil _) ?_
      refine sd_nil ?_
      (refine sn_block ?_; refine sn_then ?_; refine sw_region ?_; refine so_2 rfl (by (unfold I64; omega)) ?_; refine so_1 rfl ?_; refine so_nil ?_)
      obtain ⟨u, hu⟩ : ∃ u : Us, u = ⟨gu, dn, dr, .slice (some ⟨gl, 0, none⟩) 1 1, [(.slice A6 db.length c6, db)]⟩ := ⟨_, rfl⟩
      have hub : u.b = db := by rw [hu]; simp [Us.b]
      have hrow : usK L ++ [.pointer (some ⟨gu, 0, none⟩)] = usK (L ++ [u]) := by rw [hu]; simp [usK]
      have hus : [.int .i64 dn, .int .i64 (db.length : Int), .string dr, .slice (some ⟨gl, 0, none⟩) 1 1] = usC u := by rw [usC, hub, hu]
      have hP : usP u = [pt gu t_upload_session (usC u), row t_sl_uint8 1 (.slice (some ⟨gl, 0, none⟩) 1 1) 1 [.slice A6 db.length c6], all [rB (.slice A6 db.length c6) db]] := by rw [usP, hu]; rfl
      rw [hrow]
      have hse' : u.se = (dn, dr, db) := by show (u.n, u.r, u.b) = _; rw [hub, hu]
      refine sn_round (L ++ [u], A8, c8, dn) ⟨rfl, rfl, rfl, rfl, rfl, rfl, ?_, trivial⟩ ?_ ⟨?_, ?_, ?_, ?_⟩ ?_
      · dsimp only; rw [List.length_append]; rfl
      · dsimp only
        rw [List.length_append, List.length_singleton]
        refine (ent_blk_row (n := 1) (sz := 1) rfl rfl (by decide) 2 rfl rfl).trans ((ent_keep 8 [3, 1, 2, 5, 6, 7] rfl rfl).trans ((ent_close (G := [rB (.slice A6 db.length c6) db])).trans ((ent_keep 6 [1, 2, 0, 5, 3, 4] rfl rfl).trans ?_)))
        refine Ent.trans ?_ ((ent_in (A := usF (L ++ [u])) (B := usP u) (C := usF L) (F := pt g t_upload_Table [.int .i64 w, .int .i64 nx, .slice A8 (L.length + 1) c8] :: usR A8 c8 (L.length + 1) (L ++ [u]) :: F) usF_snoc).trans (ent_keep 3 [1, 2, 0] rfl rfl))
        rw [hP, ← hus]
        exact Ent.refl _
      · dsimp only; rw [List.length_append, List.length_singleton]; omega
      · dsimp only; rw [List.length_append, List.length_singleton, htake, List.map_append, hse, List.map_singleton, hse']; rfl
      · intro x hx
        rcases List.mem_append.1 hx with hx | hx
        · exact hps x hx
        · rw [List.mem_singleton.1 hx, hu]; rfl
      · dsimp only; rw [List.length_append, List.length_singleton, hok]
        show (decide (seOk nx last (dn, dr, db)) && sesOk nx dn _) = _
        rw [decide_eq_true hgood, Bool.true_and]
      · dsimp only; rw [List.length_append, List.length_singleton]; omega
    · refine so_know 60 (.bool true) rfl ?_ ?_
      · refine congrArg Value.bool ?_
        have : ¬ ((repoF (strI dr)).1 = 0 ∧ (repoF (strI dr)).2 = 0) := fun h => hr (Prod.ext h.1 h.2)
        simp [this]
      (refine so_1 rfl ?_; refine so_nil ?_; refine sn_then ?_; refine sw_cond_t rfl ?_; refine sw_seq ?_; refine sw_region ?_; (iterate 2 refine so_1 rfl ?_); refine so_nil ?_; refine sn_then ?_; refine sw_ret ?_; refine sn_then_ret ?_; refine sn_block_ret ?_; refine sn_then_ret ?_; refine sn_loop_ret ?_; refine sn_block_ret ?_; refine sn_then_ret ?_)
      refine sn_ret rfl (.tmp rfl (.tmp rfl .nil)) (ent_keep 4 [] rfl rfl) ?_
      rw [if_neg (bad fun h => hr h.2.2.2)]; exact ⟨rfl, rfl⟩
  · have hii : L.length = l.length := by omega
    (refine sw_exit ?_; refine sn_then_exit ?_; refine sn_loop_exit ?_; refine sn_block_exit ?_; refine sn_then ?_; refine sw_seq ?_; refine sw_region ?_; (iterate 3 refine so_1 rfl ?_); refine so_nil ?_; refine sn_then ?_; refine sw_ret ?_)
    refine sn_ret rfl (.tmp rfl (.tmp rfl .nil)) (Ent.refl _) ?_
    rw [hii, List.drop_length] at hok
    rw [if_pos ⟨by omega, by rw [hok]; rfl⟩]
    exact ⟨g, A, c, L, rfl, by rw [hse, hii, List.take_length], hps, rfl⟩
end
end Go.Proofs.Ytjfileaidgknjaa
