/- Blobs, part twenty-six: the document's store in memory; New, at, Used, IDs. Conditions: not too many. -/
import Derived.Test.YtahimopjohdkjaaK5
import Derived.Test.YtahimopjohdkjaaK6
namespace Go.Proofs.Ytahimopjohdkjaa
open Go.Eng Go.RowKit Go.WideMaps

/-- A blob of the document's store. -/
structure RB where
  id : List Int
  b : List Int
  v : Value
def refC : List RB → List Value
  | [] => []
  | e :: l => (u8s e.id ++ [e.v]) ++ refC l
def id32 (L : List RB) : Prop := ∀ e ∈ L, e.id.length = 32
theorem refC_app (a b : List RB) : refC (a ++ b) = refC a ++ refC b := by
  induction a with
  | nil => rfl
  | cons e a ih => simp only [List.cons_append, refC, ih, List.append_assoc]
theorem refC_len {L : List RB} (h : id32 L) : (refC L).length = L.length * 33 := by
  induction L with
  | nil => rfl
  | cons e L ih =>
    have := h e (by simp)
    simp only [refC, List.length_append, u8s_len, this, List.length_cons, List.length_nil, ih fun x hx => h x (by simp [hx])]; omega
theorem id32_sub {L M : List RB} (h : id32 L) (hs : ∀ e ∈ M, e ∈ L) : id32 M := fun e he => h e (hs e he)
theorem refC_take {L : List RB} (h : id32 L) (j : Nat) (hj : j ≤ L.length) : (refC L).take (j * 33) = refC (L.take j) := by
  conv => lhs; rw [← List.take_append_drop j L, refC_app]
  rw [List.take_left' (by rw [refC_len (id32_sub h fun e he => List.mem_of_mem_take he), List.length_take]; congr 1; omega)]
theorem refC_drop {L : List RB} (h : id32 L) (j : Nat) (hj : j ≤ L.length) : (refC L).drop (j * 33) = refC (L.drop j) := by
  conv => lhs; rw [← List.take_append_drop j L, refC_app]
  rw [List.drop_left' (by rw [refC_len (id32_sub h fun e he => List.mem_of_mem_take he), List.length_take]; congr 1; omega)]
theorem refC_id {L : List RB} (h : id32 L) {i : Nat} (hi : i < L.length) : ((refC L).drop (i * 33)).take 32 = u8s L[i].id := by
  rw [refC_drop h i (by omega), List.drop_eq_getElem_cons hi]
  have := h _ (List.getElem_mem hi)
  simp only [refC, List.append_assoc]
  rw [List.take_left' (by rw [u8s_len, this])]
theorem refC_v {L : List RB} (h : id32 L) {i : Nat} (hi : i < L.length) : (refC L)[i * 33 + 32]? = some L[i].v := by
  have h1 : ((refC L).drop (i * 33))[32]? = some L[i].v := by
    rw [refC_drop h i (by omega), List.drop_eq_getElem_cons hi]
    have := h _ (List.getElem_mem hi)
    simp only [refC, List.append_assoc]
    rw [List.getElem?_append_right (by rw [u8s_len, this]; omega), u8s_len, this]; rfl
  rw [List.getElem?_drop] at h1; exact h1
/-- Bytes that are only read. -/
def rE (v : Value) (xs : List Int) : SP := fun h => (xs = [] ∧ ∃ A c, v = .slice A 0 c ∧ c ≤ maxLen ∧ (A = none → c = 0)) ∨ rB v xs h
theorem vlE {b : World} {F : List SP} {k : Nat} {v : Value} {xs : List Int} (hk : nth F k = some (rE v xs)) : ∀ w, Sat b F w → VL (Value.int .u8) w v xs := fun w H => by
  obtain ⟨h1, l, hA⟩ := H.mem.get hk
  rcases hA with ⟨rfl, A, c, rfl, h2, h3⟩ | hA
  · exact ⟨A, c, rfl, rfl, Nat.zero_le _, h2, h3, fun h => absurd h (Nat.lt_irrefl 0)⟩
  · exact (row_oat l hA).sl
def refF : List RB → List SP
  | [] => []
  | e :: l => rE e.v e.b :: refF l
theorem refF_app (a b : List RB) : refF (a ++ b) = refF a ++ refF b := by
  induction a with
  | nil => rfl
  | cons e a ih => simp only [List.cons_append, refF, ih]
abbrev rR (A : Option Addr) (c n : Nat) (L : List RB) : SP := row t_entrepotref08_Blob 33 (.slice A n c) n (refC L)
abbrev stR (gr : Nat) (w r : Int) (A : Option Addr) (c n : Nat) (L : List RB) (F : List SP) : List SP := pt gr t_entrepotref08_Store [.int .i64 w, .int .i64 r, .slice A n c] :: rR A c n L :: all (refF L) :: F
section
variable {b : World} {F : List SP} {gr : Nat} {w r : Int} {A : Option Addr} {c n : Nat} {L : List RB}
theorem refNew_bad (h : ¬ newOk w r) : SC Try.prog n_entrepotref08_New [.int .i64 w, .int .i64 r] b F (fun v F' => v = .tuple ⟨[.pointer none, .int .i64 3]⟩ ∧ F' = F) := by
  refine enterS F_entrepotref08_New rfl rfl rfl ?_
  (refine sw_seq ?_; refine sw_region ?_; (iterate 2 refine so_1 rfl ?_); refine so_nil ?_; refine sn_then ?_; (iterate 2 refine sw_seq ?_); refine sw_region ?_; (iterate 3 refine so_1 rfl ?_))
  refine so_if 8 rfl (fun h1 => ?_) (fun h1 => ?_)
  · ((iterate 11 refine so_1 rfl ?_); refine so_nil ?_; refine sn_then ?_; refine sw_cond_t rfl ?_; refine sw_seq ?_; refine sw_region ?_; (iterate 2 refine so_1 rfl ?_); refine so_nil ?_; refine sn_then ?_; refine sw_ret ?_; refine sn_then_ret ?_)
    refine sn_ret rfl (.tmp rfl (.tmp rfl .nil)) (Ent.refl _) ?_
    exact ⟨rfl, rfl⟩
  ((iterate 4 refine so_1 rfl ?_))
  refine so_if 12 rfl (fun h2 => ?_) (fun h2 => ?_)
  · ((iterate 7 refine so_1 rfl ?_); refine so_nil ?_; refine sn_then ?_; refine sw_cond_t rfl ?_; refine sw_seq ?_; refine sw_region ?_; (iterate 2 refine so_1 rfl ?_); refine so_nil ?_; refine sn_then ?_; refine sw_ret ?_; refine sn_then_ret ?_)
    refine sn_ret rfl (.tmp rfl (.tmp rfl .nil)) (Ent.refl _) ?_
    exact ⟨rfl, rfl⟩
  ((iterate 4 refine so_1 rfl ?_))
  refine so_if 16 rfl (fun h3 => ?_) (fun h3 => ?_)
  · ((iterate 3 refine so_1 rfl ?_); refine so_nil ?_; refine sn_then ?_; refine sw_cond_t rfl ?_; refine sw_seq ?_; refine sw_region ?_; (iterate 2 refine so_1 rfl ?_); refine so_nil ?_; refine sn_then ?_; refine sw_ret ?_; refine sn_then_ret ?_)
    refine sn_ret rfl (.tmp rfl (.tmp rfl .nil)) (Ent.refl _) ?_
    exact ⟨rfl, rfl⟩
  ((iterate 3 refine so_1 rfl ?_); refine so_nil ?_; refine sn_then ?_)
  refine sw_if rfl (fun h4 => ?_) (fun h4 => ?_)
  · (refine sw_seq ?_; refine sw_region ?_; (iterate 2 refine so_1 rfl ?_); refine so_nil ?_; refine sn_then ?_; refine sw_ret ?_; refine sn_then_ret ?_)
    refine sn_ret rfl (.tmp rfl (.tmp rfl .nil)) (Ent.refl _) ?_
    exact ⟨rfl, rfl⟩
  exact absurd ⟨h1, h2, h3, h4⟩ h
theorem refNew_S (h : newOk w r) : SC Try.prog n_entrepotref08_New [.int .i64 w, .int .i64 r] b F (fun v F' => ∃ gr, v = .tuple ⟨[.pointer (some ⟨gr, 0, none⟩), .int .i64 0]⟩ ∧ F' = stR gr w r none 0 0 [] F) := by
  obtain ⟨h1, h2, h3, h4⟩ := h
  refine enterS F_entrepotref08_New rfl rfl rfl ?_
  (refine sw_seq ?_; refine sw_region ?_; (iterate 2 refine so_1 rfl ?_); refine so_nil ?_; refine sn_then ?_; (iterate 2 refine sw_seq ?_); refine sw_region ?_; (iterate 3 refine so_1 rfl ?_))
  refine so_if 8 rfl (fun h => (h1 h).elim) (fun h => ?_)
  ((iterate 4 refine so_1 rfl ?_))
  refine so_if 12 rfl (fun h => (h2 h).elim) (fun h => ?_)
  ((iterate 4 refine so_1 rfl ?_))
  refine so_if 16 rfl (fun h => (h3 h).elim) (fun h => ?_)
  ((iterate 3 refine so_1 rfl ?_); refine so_nil ?_; refine sn_then ?_)
  refine sw_if rfl (fun h => (h4 h).elim) (fun h => ?_)
  (refine sw_skip ?_; refine sn_then ?_; refine sw_seq ?_; refine sw_region ?_; (iterate 3 refine so_1 rfl ?_))
  refine so_box rfl rfl rfl rfl rfl fun gr => ?_
  ((iterate 2 refine so_1 rfl ?_); refine so_nil ?_; refine sn_then ?_; refine sw_ret ?_)
  refine sn_ret rfl (.tmp rfl (.tmp rfl .nil)) ((ent_row_nil t_entrepotref08_Blob 33 rfl).trans ((ent_close (G := []) (F := rR none 0 0 [] :: pt gr t_entrepotref08_Store [.int .i64 w, .int .i64 r, .slice none 0 0] :: F)).trans (ent_keep 3 [2, 1, 0] rfl rfl))) ?_
  exact ⟨gr, rfl, rfl⟩
/-- Where a digest stands, or would. -/
def atM (id : List Int) : List RB → Nat
  | [] => 0
  | e :: l => if cmpI e.id id < 0 then atM id l + 1 else 0
theorem atM_le (id : List Int) (L : List RB) : atM id L ≤ L.length := by
  induction L with
  | nil => exact Nat.le_refl _
  | cons e L ih => simp only [atM, List.length_cons]; split <;> omega
theorem atM_step {id : List Int} : ∀ {L : List RB} {i : Nat} (hi : i < L.length), i ≤ atM id L → (i < atM id L ↔ cmpI L[i].id id < 0)
  | e :: L, 0, _, _ => by simp only [atM, List.getElem_cons_zero]; split <;> simp_all
  | e :: L, i + 1, hi, h => by
    simp only [atM, List.getElem_cons_succ] at h ⊢
    split at h
    · rename_i h1
      rw [if_pos h1]
      have := atM_step (L := L) (id := id) (i := i) (by simpa using hi) (by omega)
      rw [← this]; omega
    · omega
def isM (id : List Int) (L : List RB) : Bool := match L[atM id L]? with | some e => decide (e.id = id) | none => false
set_option maxHeartbeats 1000000 in
theorem at_S {id : List Int} (hid : id.length = 32) (h32 : id32 L) (hn : n = L.length) (hm : n ≤ 100000) : SC Try.prog n_p_entrepotref08_Store_at [.pointer (some ⟨gr, 0, none⟩), idV id] b (stR gr w r A c n L F)
    (fun v F' => v = .tuple ⟨[.int .i64 (atM id L), .bool (isM id L)]⟩ ∧ F' = stR gr w r A c n L F) := by
  have hle := atM_le id L
  refine enterS F_p_entrepotref08_Store_at rfl rfl rfl ?_
  refine sw_fact (fun w H => (H.oat (k := 1) rfl).form) ?_
  rintro ⟨A', c', hv, k1, k2, k3⟩
  cases hv
  (refine sw_seq ?_; refine sw_region ?_)
  refine so_box rfl rfl rfl rfl rfl fun g3 => ?_
  ((iterate 2 refine so_1 rfl ?_); refine so_nil ?_; refine sn_then ?_; refine sw_seq ?_; refine sw_region ?_; refine so_1 rfl ?_; refine so_nil ?_; refine sn_then ?_; refine sw_seq ?_; refine sw_block ?_)
  refine sw_loop (S := Nat) (fun i => [(0, .pointer (some ⟨gr, 0, none⟩)), (3, .pointer (some ⟨g3, 0, none⟩)), (6, .int .i64 (i : Int))]) (fun _ => pt g3 t_api_ID (u8s id) :: stR gr w r A c n L F) (fun i => i ≤ atM id L) (fun i => atM id L - i) 0 ⟨rfl, rfl, rfl, trivial⟩ (Ent.refl _) (Nat.zero_le _) ?_
  intro i hi
  subst hn
  ((iterate 2 refine sw_seq ?_))
  refine sw_draw flo (pt g3 t_api_ID (u8s id) :: stR gr w r A c L.length L F) (by decide +kernel) (Ent.refl _) ?_
  ((iterate 4 refine sd_1 rfl (.inl rfl) ?_); refine sd_l 1 rfl rfl rfl rfl ?_; (iterate 3 refine sd_1 rfl (.inl rfl) ?_))
  by_cases h1 : i < L.length
  · refine sd_know 14 (.bool true) rfl (by simp; omega) ?_
    obtain ⟨gL, oL, rfl⟩ := k3 (by omega)
    have hst := atM_step h1 hi
    have hs := refC_id h32 h1
    have hx := h32 _ (List.getElem_mem h1)
    have hM : i = atM id L → isM id L = decide (L[i].id = id) := fun e => by simp only [isM, ← e, List.getElem?_eq_getElem h1]
    generalize L[i].id = x at *
    ((iterate 3 refine sd_1 rfl (.inl rfl) ?_); refine sd_l 1 rfl rfl rfl rfl ?_; refine sd_1 rfl (.inl rfl) ?_; refine sd_2 rfl rfl (by omega) ?_; refine sd_1 rfl (.inl rfl) ?_)
    refine sd_ldrow 2 (i * 33) rfl rfl rfl rfl rfl rfl rfl rfl (by rw [mulz_eq, Int.toNat_natCast]; rfl) (by omega) hs (by rw [u8s_len, hx]; rfl) ?_
    refine sd_ldA 0 rfl rfl rfl rfl rfl rfl (segID hid) rfl rfl ?_
    refine sd_callE rfl rfl rfl rfl (refCompare_S hx hid) (Ent.refl _) ?_
    ((iterate 2 refine sd_1 rfl (.inl rfl) ?_))
    refine sd_nil ?_
    (refine sn_then ?_)
    refine sw_if rfl (fun h2 => ?_) (fun h2 => ?_)
    · (refine sw_skip ?_; refine sn_then ?_; refine sw_block ?_; refine sw_region ?_; refine so_1 rfl ?_; refine so_2 rfl (by (unfold I64; omega)) ?_; refine so_1 rfl ?_; refine so_nil ?_; refine sn_block ?_)
      refine sn_round (i + 1) ⟨rfl, rfl, rfl, trivial⟩ (Ent.refl _) ?_ ?_
      · show i + 1 ≤ atM id L
        have := hst.2 h2
        omega
      · show atM id L - (i + 1) < atM id L - i
        have := hst.2 h2
        omega
    · have hia : i = atM id L := by
        have : ¬ i < atM id L := fun h => h2 (hst.1 h)
        omega
      have hM := hM hia
      (refine sw_exit ?_; refine sn_then_exit ?_; refine sn_loop_exit ?_; refine sn_block_exit ?_; refine sn_then ?_; refine sw_seq ?_)
      refine sw_draw flo (pt g3 t_api_ID (u8s id) :: stR gr w r (some ⟨gL, oL, none⟩) c L.length L F) (by decide +kernel) (Ent.refl _) ?_
      ((iterate 5 refine sd_1 rfl (.inl rfl) ?_); refine sd_l 1 rfl rfl rfl rfl ?_; (iterate 3 refine sd_1 rfl (.inl rfl) ?_))
      refine sd_know 37 (.bool true) rfl (by simp; omega) ?_
      ((iterate 3 refine sd_1 rfl (.inl rfl) ?_); refine sd_l 1 rfl rfl rfl rfl ?_; refine sd_1 rfl (.inl rfl) ?_; refine sd_2 rfl rfl (by omega) ?_; refine sd_1 rfl (.inl rfl) ?_)
      refine sd_ldrow 2 (i * 33) rfl rfl rfl rfl rfl rfl rfl rfl (by rw [mulz_eq, Int.toNat_natCast]; rfl) (by omega) hs (by rw [u8s_len, hx]; rfl) ?_
      refine sd_ldA 0 rfl rfl rfl rfl rfl rfl (segID hid) rfl rfl ?_
      refine sd_pu rfl (pu_eqI (as00 := x) (bs := id) rfl rfl hx hid) rfl rfl ?_
      ((iterate 3 refine sd_1 rfl (.inl rfl) ?_))
      refine sd_nil ?_
      (refine sn_then ?_; refine sw_ret ?_)
      refine sn_ret rfl (.tmp rfl (.tmp rfl .nil)) (ent_keep 1 [] rfl rfl) ?_
      exact ⟨by rw [← hia, hM]; rfl, rfl⟩
  · have hia : i = atM id L := by omega
    have hM : isM id L = false := by simp only [isM, List.getElem?_eq_none (show L.length ≤ atM id L by omega)]
    refine sd_know 14 (.bool false) rfl (by simp; omega) ?_
    ((iterate 9 refine sd_1 rfl (.inl rfl) ?_); refine sd_1 rfl (.inr rfl) ?_; (iterate 2 refine sd_1 rfl (.inl rfl) ?_))
    refine sd_nil ?_
    (refine sn_then ?_; refine sw_cond_f rfl ?_; refine sw_exit ?_; refine sn_then_exit ?_; refine sn_loop_exit ?_; refine sn_block_exit ?_; refine sn_then ?_; refine sw_seq ?_)
    refine sw_draw flo (pt g3 t_api_ID (u8s id) :: stR gr w r A c L.length L F) (by decide +kernel) (Ent.refl _) ?_
    ((iterate 5 refine sd_1 rfl (.inl rfl) ?_); refine sd_l 1 rfl rfl rfl rfl ?_; (iterate 3 refine sd_1 rfl (.inl rfl) ?_))
    refine sd_know 37 (.bool false) rfl (by simp; omega) ?_
    ((iterate 13 refine sd_1 rfl (.inl rfl) ?_))
    refine sd_nil ?_
    (refine sn_then ?_; refine sw_ret ?_)
    refine sn_ret rfl (.tmp rfl (.tmp rfl .nil)) (ent_keep 1 [] rfl rfl) ?_
    exact ⟨by rw [← hia, hM]; rfl, rfl⟩
def rSum (L : List RB) : Int := (L.map fun e => (e.b.length : Int)).sum
theorem rSum_app (a b : List RB) : rSum (a ++ b) = rSum a + rSum b := by simp [rSum]
theorem rSum_nn (L : List RB) : 0 ≤ rSum L := by
  induction L with
  | nil => exact Int.le_refl _
  | cons x L ih =>
    have : rSum (x :: L) = (x.b.length : Int) + rSum L := by simp [rSum]
    omega
theorem rSum_take {L : List RB} {i : Nat} (hi : i < L.length) : rSum (L.take (i + 1)) = rSum (L.take i) + L[i].b.length := by
  rw [List.take_succ_eq_append_getElem hi, rSum_app]; simp [rSum]
theorem rSum_take_le (L : List RB) (i : Nat) : rSum (L.take i) ≤ rSum L := by
  conv => rhs; rw [← List.take_append_drop i L]
  rw [rSum_app]; have := rSum_nn (L.drop i); omega
/-- A blob's bytes are taken out of the others. -/
theorem ref_at {L : List RB} {i : Nat} (hi : i < L.length) : (refF L).Perm (rE L[i].v L[i].b :: refF (L.take i ++ L.drop (i + 1))) := by
  conv => lhs; rw [← List.take_append_drop i L, List.drop_eq_getElem_cons hi, refF_app, refF]
  rw [refF_app]
  exact List.perm_middle
theorem ref_vl {b : World} {F : List SP} {k : Nat} {L : List RB} (hk : nth F k = some (all (refF L))) {i : Nat} (hi : i < L.length) : ∀ w, Sat b F w → VL (Value.int .u8) w L[i].v L[i].b := fun w H => by
  obtain ⟨h1, l, hA⟩ := H.mem.get hk
  have h2 : SatH (rE L[i].v L[i].b :: refF (L.take i ++ L.drop (i + 1))) (ph w) := (ent_perm (ref_at hi) _ hA).mono l
  exact vlE (k := 0) (F := rE L[i].v L[i].b :: refF (L.take i ++ L.drop (i + 1))) rfl w ⟨H.os, H.tape, H.output, h2⟩
set_option maxHeartbeats 1000000 in
theorem refUsed_S (h32 : id32 L) (hn : n = L.length) (hm : n ≤ 100000) (hs : rSum L ≤ 67108864) : SC Try.prog n_p_entrepotref08_Store_Used [.pointer (some ⟨gr, 0, none⟩)] b (stR gr w r A c n L F)
    (fun v F' => v = .int .i64 (rSum L) ∧ F' = stR gr w r A c n L F) := by
  subst hn
  refine enterS F_p_entrepotref08_Store_Used rfl rfl rfl ?_
  refine sw_fact (fun w H => (H.oat (k := 1) rfl).form) ?_
  rintro ⟨A', c', hv, k1, k2, k3⟩
  cases hv
  (refine sw_seq ?_; refine sw_region ?_; refine so_1 rfl ?_; refine so_nil ?_; refine sn_then ?_; refine sw_seq ?_; refine sw_region ?_; refine so_1 rfl ?_; refine so_nil ?_; refine sn_then ?_; (iterate 2 refine sw_seq ?_); refine sw_region ?_; refine so_1 rfl ?_; refine so_nil ?_; refine sn_then ?_; refine sw_block ?_)
  refine sw_loop (S := Nat) (fun i => [(0, .pointer (some ⟨gr, 0, none⟩)), (3, .int .i64 (rSum (L.take i))), (4, .int .i64 (i : Int))]) (fun _ => stR gr w r A c L.length L F) (fun i => i ≤ L.length) (fun i => L.length - i) 0 ⟨rfl, rfl, rfl, trivial⟩ (Ent.refl _) (Nat.zero_le _) ?_
  intro i hi
  have q1 := rSum_nn (L.take i)
  have q2 := rSum_take_le L i
  ((iterate 2 refine sw_seq ?_); refine sw_region ?_; (iterate 4 refine so_1 rfl ?_); refine so_l 0 rfl rfl rfl ?_; (iterate 2 refine so_1 rfl ?_); refine so_nil ?_; refine sn_then ?_)
  refine sw_if rfl (fun h1 => ?_) (fun h1 => ?_)
  · have h1' : i < L.length := by omega
    obtain ⟨gL, oL, rfl⟩ := k3 (by omega)
    have q3 := rSum_take h1'
    have q4 := rSum_take_le L (i + 1)
    have hc := row_cell (b := b) (F := stR gr w r (some ⟨gL, oL, none⟩) c L.length L F) (k := 1) rfl (refC_v h32 h1')
    (refine sw_skip ?_; refine sn_then ?_; refine sw_seq ?_; refine sw_block ?_; refine sw_region ?_; (iterate 4 refine so_1 rfl ?_); refine so_l 0 rfl rfl rfl ?_; refine so_1 rfl ?_; refine so_2 rfl (by omega) ?_; refine so_1 rfl ?_)
    refine so_rd rfl (fun w H => ex_load rfl rfl rfl (by rw [mulz_eq, Int.toNat_natCast, Nat.add_assoc]; exact hc w H)) rfl ?_
    refine so_fact (fun w H => (ref_vl (k := 2) rfl h1' w H).form) ?_
    rintro ⟨A3, c3, hv3, m1, m2, m3, m4⟩
    refine so_know 22 (.slice A3 L[i].b.length c3) rfl hv3 ?_
    (refine so_1 rfl ?_; refine so_2 rfl (by (unfold I64; omega)) ?_; refine so_1 rfl ?_; refine so_nil ?_; refine sn_block ?_; refine sn_then ?_; refine sw_region ?_; refine so_1 rfl ?_; refine so_2 rfl (by (unfold I64; omega)) ?_; refine so_1 rfl ?_; refine so_nil ?_)
    refine sn_round (i + 1) ⟨rfl, by rw [q3]; rfl, rfl, trivial⟩ (Ent.refl _) ?_ ?_
    · show i + 1 ≤ L.length
      omega
    · show L.length - (i + 1) < L.length - i
      omega
  · (refine sw_exit ?_; refine sn_then_exit ?_; refine sn_loop_exit ?_; refine sn_block_exit ?_; refine sn_then ?_; refine sw_seq ?_; refine sw_region ?_; (iterate 2 refine so_1 rfl ?_); refine so_nil ?_; refine sn_then ?_; refine sw_ret ?_)
    obtain rfl : i = L.length := by omega
    refine sn_ret rfl (.tmp rfl .nil) (Ent.refl _) ?_
    exact ⟨by rw [List.take_length]; rfl, rfl⟩
set_option maxHeartbeats 1000000 in
theorem refIDs_S (h32 : id32 L) (hn : n = L.length) (hm : n ≤ 100000) : SC Try.prog n_p_entrepotref08_Store_IDs [.pointer (some ⟨gr, 0, none⟩)] b (stR gr w r A c n L F)
    (fun v F' => ∃ A1 c1, v = .slice A1 L.length c1 ∧ F' = rN A1 c1 L.length (L.map (·.id)) :: stR gr w r A c n L F) := by
  subst hn
  refine enterS F_p_entrepotref08_Store_IDs rfl rfl rfl ?_
  refine sw_fact (fun w H => (H.oat (k := 1) rfl).form) ?_
  rintro ⟨A', c', hv, k1, k2, k3⟩
  cases hv
  (refine sw_seq ?_; refine sw_region ?_; refine so_1 rfl ?_; refine so_nil ?_; refine sn_then ?_; refine sw_seq ?_; refine sw_region ?_; refine so_1 rfl ?_; refine so_nil ?_; refine sn_then ?_; (iterate 2 refine sw_seq ?_); refine sw_region ?_; refine so_1 rfl ?_; refine so_nil ?_; refine sn_then ?_; refine sw_block ?_)
  refine sw_loop (S := Nat × Option Addr × Nat) (fun s => [(0, .pointer (some ⟨gr, 0, none⟩)), (3, .slice s.2.1 s.1 s.2.2), (4, .int .i64 (s.1 : Int))]) (fun s => rN s.2.1 s.2.2 s.1 ((L.take s.1).map (·.id)) :: stR gr w r A c L.length L F) (fun s => s.1 ≤ L.length) (fun s => L.length - s.1) (0, none, 0) ⟨rfl, rfl, rfl, trivial⟩ (ent_row_nil t_api_ID 32 rfl) (Nat.zero_le _) ?_
  rintro ⟨i, A1, c1⟩ hi
  dsimp only at hi ⊢
  ((iterate 2 refine sw_seq ?_); refine sw_region ?_; (iterate 4 refine so_1 rfl ?_); refine so_l 1 rfl rfl rfl ?_; (iterate 2 refine so_1 rfl ?_); refine so_nil ?_; refine sn_then ?_)
  refine sw_if rfl (fun h1 => ?_) (fun h1 => ?_)
  · have h1' : i < L.length := by omega
    obtain ⟨gL, oL, rfl⟩ := k3 (by omega)
    have hs := refC_id h32 h1'
    have hx := h32 _ (List.getElem_mem h1')
    have ht : (L.take (i + 1)).map (·.id) = (L.take i).map (·.id) ++ [L[i].id] := by rw [List.take_succ_eq_append_getElem h1', List.map_append]; rfl
    generalize L[i].id = x at *
    (refine sw_skip ?_; refine sn_then ?_; refine sw_seq ?_; refine sw_block ?_; refine sw_region ?_; (iterate 4 refine so_1 rfl ?_); refine so_l 1 rfl rfl rfl ?_; refine so_1 rfl ?_; refine so_2 rfl (by omega) ?_; refine so_1 rfl ?_)
    refine so_ldrow 2 (i * 33) rfl rfl rfl rfl rfl rfl rfl (by rw [mulz_eq, Int.toNat_natCast]; rfl) (by omega) hs (by rw [u8s_len, hx]; rfl) ?_
    refine so_lit1 rfl rfl rfl rfl rfl rfl rfl (by rw [u8s_len, hx]; rfl) (by decide) fun gl => ?_
    refine so_append 1 rfl rfl rfl rfl rfl rfl rfl rfl rfl (m := 1) (news := u8s x) (fun w H => (H.blk (k := 0) rfl).sl (by rw [u8s_len, hx]) (by decide)) (u8s_one _) (by omega) (fun _ => rfl) fun v8 => ?_
    rw [idsC_app, ← ht]
    refine so_fact (fun w H => (H.oat (k := 1) rfl).form) ?_
    rintro ⟨A7, c7, rfl, _, _, _⟩
    (refine so_1 rfl ?_; refine so_nil ?_; refine sn_block ?_; refine sn_then ?_; refine sw_region ?_; refine so_1 rfl ?_; refine so_2 rfl (by (unfold I64; omega)) ?_; refine so_1 rfl ?_; refine so_nil ?_)
    refine sn_round (i + 1, A7, c7) ⟨rfl, rfl, rfl, trivial⟩ (ent_keep 1 [] rfl rfl) ?_ ?_
    · show i + 1 ≤ L.length
      omega
    · show L.length - (i + 1) < L.length - i
      omega
  · (refine sw_exit ?_; refine sn_then_exit ?_; refine sn_loop_exit ?_; refine sn_block_exit ?_; refine sn_then ?_; refine sw_seq ?_; refine sw_region ?_; (iterate 2 refine so_1 rfl ?_); refine so_nil ?_; refine sn_then ?_; refine sw_ret ?_)
    obtain rfl : i = L.length := by omega
    rw [List.take_length] at *
    refine sn_ret rfl (.tmp rfl .nil) (Ent.refl _) ?_
    exact ⟨A1, c1, rfl, rfl⟩
end
end Go.Proofs.Ytahimopjohdkjaa
/- Blobs, part twenty-seven: the document's store: Get, Size, Drop. Conditions: not too many. -/
namespace Go.Proofs.Ytahimopjohdkjaa
open Go.Eng Go.RowKit Go.WideMaps

theorem isM_at {id : List Int} {L : List RB} (h : isM id L = true) : ∃ h1 : atM id L < L.length, L[atM id L].id = id := by
  unfold isM at h
  split at h
  · rename_i e he
    obtain ⟨h1, h2⟩ := List.getElem?_eq_some_iff.1 he
    exact ⟨h1, by rw [h2]; simpa using h⟩
  · cases h
theorem refC_one {L : List RB} (hs : ∀ e ∈ L, e.v.oneCell' = true) {u : Value} (h : u ∈ refC L) : u.oneCell' = true := by
  induction L with
  | nil => simp [refC] at h
  | cons e L ih =>
    simp only [refC, List.mem_append, List.mem_singleton] at h
    rcases h with (h | h) | h
    · exact u8s_one _ u h
    · subst h; exact hs e (by simp)
    · exact ih (fun x hx => hs x (by simp [hx])) h
section
variable {b : World} {F : List SP} {gr : Nat} {w r : Int} {A : Option Addr} {c n : Nat} {L : List RB} {id : List Int}
set_option maxHeartbeats 1000000 in
theorem refGet_none (hid : id.length = 32) (h32 : id32 L) (hn : n = L.length) (hm : n ≤ 100000) (h : isM id L = false) : SC Try.prog n_p_entrepotref08_Store_Get [.pointer (some ⟨gr, 0, none⟩), idV id] b (stR gr w r A c n L F)
    (fun v F' => v = .tuple ⟨[.slice none 0 0, .bool false]⟩ ∧ F' = stR gr w r A c n L F) := by
  refine enterS F_p_entrepotref08_Store_Get rfl rfl rfl ?_
  (refine sw_seq ?_; refine sw_region ?_)
  refine so_box rfl rfl rfl rfl rfl fun g3 => ?_
  ((iterate 2 refine so_1 rfl ?_); refine so_nil ?_; refine sn_then ?_; refine sw_seq ?_; refine sw_region ?_; refine so_1 rfl ?_)
  refine so_ldA 0 rfl rfl rfl rfl rfl rfl (segID hid) rfl ?_
  refine so_callE rfl rfl rfl ((at_S (F := pt g3 t_api_ID (u8s id) :: F) hid h32 hn hm).at (ent_keep 4 [1, 2, 3, 0] rfl rfl) (ent_keep 4 [3, 0, 1, 2] rfl rfl)) ?_
  rw [h]
  ((iterate 5 refine so_1 rfl ?_); refine so_nil ?_; refine sn_then ?_; (iterate 2 refine sw_seq ?_); refine sw_region ?_; (iterate 2 refine so_1 rfl ?_); refine so_nil ?_; refine sn_then ?_; refine sw_cond_t rfl ?_; refine sw_seq ?_; refine sw_region ?_; (iterate 2 refine so_1 rfl ?_); refine so_nil ?_; refine sn_then ?_; refine sw_ret ?_; refine sn_then_ret ?_)
  refine sn_ret rfl (.tmp rfl (.tmp rfl .nil)) (ent_keep 1 [] rfl rfl) ?_
  exact ⟨rfl, rfl⟩
set_option maxHeartbeats 1000000 in
theorem refGet_some (hid : id.length = 32) (h32 : id32 L) (hn : n = L.length) (hm : n ≤ 100000) (h : isM id L = true) (h1 : atM id L < L.length) (hlen : L[atM id L].b.length ≤ 1000000) : SC Try.prog n_p_entrepotref08_Store_Get [.pointer (some ⟨gr, 0, none⟩), idV id] b (stR gr w r A c n L F)
    (fun v F' => ∃ v1, v = .tuple ⟨[v1, .bool true]⟩ ∧ F' = rB v1 L[atM id L].b :: stR gr w r A c n L F) := by
  subst hn
  have hc0 := refC_v h32 h1
  have hvl := fun (b : World) (F : List SP) (k : Nat) (hk : nth F k = some (all (refF L))) => ref_vl (b := b) hk h1
  have hat := at_S (b := b) (F := F) (gr := gr) (w := w) (r := r) (A := A) (c := c) hid h32 rfl hm
  rw [h] at hat
  have hatF : ∀ F, SC Try.prog n_p_entrepotref08_Store_at [.pointer (some ⟨gr, 0, none⟩), idV id] b (stR gr w r A c L.length L F) (fun v F' => v = .tuple ⟨[.int .i64 (atM id L), .bool true]⟩ ∧ F' = stR gr w r A c L.length L F) := fun F => by
    have := at_S (b := b) (F := F) (gr := gr) (w := w) (r := r) (A := A) (c := c) hid h32 rfl hm
    rwa [h] at this
  clear hat
  generalize atM id L = i at *
  generalize L[i].b = xs at *
  generalize L[i].v = vv at *
  refine enterS F_p_entrepotref08_Store_Get rfl rfl rfl ?_
  refine sw_fact (fun w H => (H.oat (k := 1) rfl).form) ?_
  rintro ⟨A', c', hv, k1, k2, k3⟩
  cases hv
  obtain ⟨gL, oL, rfl⟩ := k3 (by omega)
  (refine sw_seq ?_; refine sw_region ?_)
  refine so_box rfl rfl rfl rfl rfl fun g3 => ?_
  ((iterate 2 refine so_1 rfl ?_); refine so_nil ?_; refine sn_then ?_; refine sw_seq ?_; refine sw_region ?_; refine so_1 rfl ?_)
  refine so_ldA 0 rfl rfl rfl rfl rfl rfl (segID hid) rfl ?_
  refine so_callE rfl rfl rfl ((hatF (pt g3 t_api_ID (u8s id) :: F)).at (ent_keep 4 [1, 2, 3, 0] rfl rfl) (ent_keep 4 [3, 0, 1, 2] rfl rfl)) ?_
  ((iterate 5 refine so_1 rfl ?_); refine so_nil ?_; refine sn_then ?_; (iterate 2 refine sw_seq ?_); refine sw_region ?_; (iterate 2 refine so_1 rfl ?_); refine so_nil ?_; refine sn_then ?_; refine sw_cond_f rfl ?_; refine sw_skip ?_; refine sn_then ?_; refine sw_seq ?_; refine sw_region ?_)
  refine so_lit0 rfl rfl rfl rfl rfl fun g0 => ?_
  ((iterate 3 refine so_1 rfl ?_); refine so_l 2 rfl rfl rfl ?_; refine so_1 rfl ?_; refine so_2 rfl (by omega) ?_; refine so_1 rfl ?_)
  have hc := row_cell (b := b) (F := pt g0 5 [] :: pt g3 t_api_ID (u8s id) :: stR gr w r (some ⟨gL, oL, none⟩) c L.length L F) (k := 3) rfl hc0
  refine so_rd rfl (fun w H => ex_load rfl rfl rfl (by rw [mulz_eq, Int.toNat_natCast, Nat.add_assoc]; exact hc w H)) rfl ?_
  refine so_ent (ent_blk_row (n := 0) (sz := 1) rfl (by rfl) (by omega) 0 rfl rfl) ?_
  refine so_append 0 rfl rfl rfl rfl rfl rfl rfl rfl rfl (hvl _ _ 4 rfl) (u8s_one _) (by omega) (fun _ => rfl) fun v' => ?_
  refine so_ent (ent_rB (l := xs) 0 rfl (by omega) rfl rfl) ?_
  ((iterate 2 refine so_1 rfl ?_); refine so_nil ?_; refine sn_then ?_; refine sw_ret ?_)
  refine sn_ret rfl (.tmp rfl (.tmp rfl .nil)) (ent_keep 2 [0] rfl rfl) ?_
  exact ⟨v', rfl, rfl⟩
theorem refSize_none (hid : id.length = 32) (h32 : id32 L) (hn : n = L.length) (hm : n ≤ 100000) (h : isM id L = false) : SC Try.prog n_p_entrepotref08_Store_Size [.pointer (some ⟨gr, 0, none⟩), idV id] b (stR gr w r A c n L F)
    (fun v F' => v = .tuple ⟨[.int .i64 0, .bool false]⟩ ∧ F' = stR gr w r A c n L F) := by
  refine enterS F_p_entrepotref08_Store_Size rfl rfl rfl ?_
  (refine sw_seq ?_; refine sw_region ?_)
  refine so_box rfl rfl rfl rfl rfl fun g3 => ?_
  ((iterate 2 refine so_1 rfl ?_); refine so_nil ?_; refine sn_then ?_; refine sw_seq ?_; refine sw_region ?_; refine so_1 rfl ?_)
  refine so_ldA 0 rfl rfl rfl rfl rfl rfl (segID hid) rfl ?_
  refine so_callE rfl rfl rfl ((refGet_none (F := pt g3 t_api_ID (u8s id) :: F) hid h32 hn hm h).at (ent_keep 4 [1, 2, 3, 0] rfl rfl) (ent_keep 4 [3, 0, 1, 2] rfl rfl)) ?_
  ((iterate 5 refine so_1 rfl ?_); refine so_nil ?_; refine sn_then ?_; refine sw_seq ?_; refine sw_region ?_; (iterate 5 refine so_1 rfl ?_); refine so_nil ?_; refine sn_then ?_; refine sw_ret ?_)
  refine sn_ret rfl (.tmp rfl (.tmp rfl .nil)) (ent_keep 1 [] rfl rfl) ?_
  exact ⟨rfl, rfl⟩
theorem refSize_some (hid : id.length = 32) (h32 : id32 L) (hn : n = L.length) (hm : n ≤ 100000) (h : isM id L = true) (h1 : atM id L < L.length) (hlen : L[atM id L].b.length ≤ 1000000) : SC Try.prog n_p_entrepotref08_Store_Size [.pointer (some ⟨gr, 0, none⟩), idV id] b (stR gr w r A c n L F)
    (fun v F' => v = .tuple ⟨[.int .i64 L[atM id L].b.length, .bool true]⟩ ∧ F' = stR gr w r A c n L F) := by
  refine enterS F_p_entrepotref08_Store_Size rfl rfl rfl ?_
  (refine sw_seq ?_; refine sw_region ?_)
  refine so_box rfl rfl rfl rfl rfl fun g3 => ?_
  ((iterate 2 refine so_1 rfl ?_); refine so_nil ?_; refine sn_then ?_; refine sw_seq ?_; refine sw_region ?_; refine so_1 rfl ?_)
  refine so_ldA 0 rfl rfl rfl rfl rfl rfl (segID hid) rfl ?_
  refine so_call rfl rfl rfl ((refGet_some (F := pt g3 t_api_ID (u8s id) :: F) hid h32 hn hm h h1 hlen).ent (ent_keep 4 [1, 2, 3, 0] rfl rfl)) ?_
  rintro _ _ ⟨v1, rfl, rfl⟩
  refine so_fact (fun w H => (H.oat (k := 0) rfl).form) ?_
  rintro ⟨A7, c7, rfl, _, _, _⟩
  ((iterate 5 refine so_1 rfl ?_); refine so_nil ?_; refine sn_then ?_; refine sw_seq ?_; refine sw_region ?_; (iterate 5 refine so_1 rfl ?_); refine so_nil ?_; refine sn_then ?_; refine sw_ret ?_)
  refine sn_ret rfl (.tmp rfl (.tmp rfl .nil)) (ent_keep 5 [1, 2, 3] rfl rfl) ?_
  exact ⟨rfl, rfl⟩
theorem refDrop_none (hid : id.length = 32) (h32 : id32 L) (hn : n = L.length) (hm : n ≤ 100000) (h : isM id L = false) : SC Try.prog n_p_entrepotref08_Store_Drop [.pointer (some ⟨gr, 0, none⟩), idV id] b (stR gr w r A c n L F)
    (fun v F' => v = .bool false ∧ F' = stR gr w r A c n L F) := by
  refine enterS F_p_entrepotref08_Store_Drop rfl rfl rfl ?_
  (refine sw_seq ?_; refine sw_region ?_)
  refine so_box rfl rfl rfl rfl rfl fun g3 => ?_
  (refine so_1 rfl ?_; refine so_nil ?_; refine sn_then ?_; refine sw_seq ?_; refine sw_region ?_; refine so_1 rfl ?_)
  refine so_ldA 0 rfl rfl rfl rfl rfl rfl (segID hid) rfl ?_
  refine so_callE rfl rfl rfl ((at_S (F := pt g3 t_api_ID (u8s id) :: F) hid h32 hn hm).at (ent_keep 4 [1, 2, 3, 0] rfl rfl) (ent_keep 4 [3, 0, 1, 2] rfl rfl)) ?_
  rw [h]
  ((iterate 5 refine so_1 rfl ?_); refine so_nil ?_; refine sn_then ?_; (iterate 2 refine sw_seq ?_); refine sw_region ?_; refine so_1 rfl ?_; refine so_nil ?_; refine sn_then ?_; refine sw_cond_f rfl ?_; refine sw_skip ?_; refine sn_then ?_; refine sw_seq ?_; refine sw_region ?_; (iterate 2 refine so_1 rfl ?_); refine so_nil ?_; refine sn_then ?_; refine sw_ret ?_)
  refine sn_ret rfl (.tmp rfl .nil) (ent_keep 1 [] rfl rfl) ?_
  exact ⟨rfl, rfl⟩
/-- One is taken out. -/
abbrev outL (i : Nat) (L : List RB) : List RB := L.take i ++ L.drop (i + 1)
set_option maxHeartbeats 1000000 in
theorem refDrop_some (hone : ∀ e ∈ L, e.v.oneCell' = true) (hid : id.length = 32) (h32 : id32 L) (hn : n = L.length) (hm : n ≤ 100000) (h : isM id L = true) (h1 : atM id L < L.length) : SC Try.prog n_p_entrepotref08_Store_Drop [.pointer (some ⟨gr, 0, none⟩), idV id] b (stR gr w r A c n L F)
    (fun v F' => v = .bool true ∧ ∃ A' c', F' = stR gr w r A' c' (outL (atM id L) L).length (outL (atM id L) L) F) := by
  subst hn
  have hatF : ∀ F, SC Try.prog n_p_entrepotref08_Store_at [.pointer (some ⟨gr, 0, none⟩), idV id] b (stR gr w r A c L.length L F) (fun v F' => v = .tuple ⟨[.int .i64 (atM id L), .bool true]⟩ ∧ F' = stR gr w r A c L.length L F) := fun F => by
    have := at_S (b := b) (F := F) (gr := gr) (w := w) (r := r) (A := A) (c := c) hid h32 rfl hm
    rwa [h] at this
  have hperm := ref_at h1
  generalize atM id L = i at *
  have ht := refC_take h32 i (by omega)
  have hd := refC_drop h32 (i + 1) (by omega)
  refine enterS F_p_entrepotref08_Store_Drop rfl rfl rfl ?_
  refine sw_fact (fun w H => (H.oat (k := 1) rfl).form) ?_
  rintro ⟨A', c', hv, k1, k2, k3⟩
  cases hv
  obtain ⟨gL, oL, rfl⟩ := k3 (by omega)
  (refine sw_seq ?_; refine sw_region ?_)
  refine so_box rfl rfl rfl rfl rfl fun g3 => ?_
  (refine so_1 rfl ?_; refine so_nil ?_; refine sn_then ?_; refine sw_seq ?_; refine sw_region ?_; refine so_1 rfl ?_)
  refine so_ldA 0 rfl rfl rfl rfl rfl rfl (segID hid) rfl ?_
  refine so_callE rfl rfl rfl ((hatF (pt g3 t_api_ID (u8s id) :: F)).at (ent_keep 4 [1, 2, 3, 0] rfl rfl) (ent_keep 4 [3, 0, 1, 2] rfl rfl)) ?_
  ((iterate 5 refine so_1 rfl ?_); refine so_nil ?_; refine sn_then ?_; (iterate 2 refine sw_seq ?_); refine sw_region ?_; refine so_1 rfl ?_; refine so_nil ?_; refine sn_then ?_; refine sw_cond_t rfl ?_)
  refine sw_draw2 flo 17 (pt gr t_entrepotref08_Store [.int .i64 w, .int .i64 r, .slice (some ⟨gL, oL, none⟩) L.length c] :: F) [] rfl (by decide +kernel) (ent_keep 4 [1] rfl rfl) ?_
  ((iterate 4 refine sd_1 rfl (.inl rfl) ?_); refine sd_l 0 rfl rfl rfl rfl ?_; refine sd_1 rfl (.inl rfl) ?_; refine sd_2 rfl rfl (by omega) ?_; (iterate 3 refine sd_1 rfl (.inl rfl) ?_); refine sd_l 0 rfl rfl rfl rfl ?_; refine sd_1 rfl (.inl rfl) ?_; refine sd_2 rfl rfl (by (unfold I64; omega)) ?_; refine sd_2 rfl rfl (by omega) ?_)
  have hi1 : ((i : Int) + 1).toNat = i + 1 := by omega
  refine sd_know 20 (.slice (some ⟨gL, oL, none⟩) i c) rfl rfl ?_
  refine sd_know 27 (.slice (if c = i + 1 then (some ⟨gL, oL, none⟩ : Option Addr) else (some ⟨gL, oL, none⟩ : Option Addr).map (·.add ((i + 1) * 33))) (L.length - (i + 1)) (c - (i + 1))) rfl (by rw [hi1]) ?_
  refine sd_appendP 2 rfl rfl rfl rfl rfl rfl rfl rfl rfl rfl (by omega) (row_drop_sl (k := 2) rfl (by omega)) (fun u hu => ?_) (by omega) (fun _ => rfl) (fun _ => ent_keep 4 [1] rfl rfl) fun v8 => ?_
  · have hm : u ∈ refC L := List.mem_of_mem_drop hu
    exact refC_one hone hm
  rw [ht, hd, ← refC_app]
  refine sd_fact (fun w H => (H.oat (k := 2) rfl).form) ?_
  rintro ⟨A7, c7, rfl, _, _, _⟩
  ((iterate 2 refine sd_1 rfl (.inl rfl) ?_))
  refine sd_nil (sn_draw2 rfl (ent_nil _) ?_)
  refine sd_st 1 rfl rfl rfl rfl rfl rfl rfl rfl rfl rfl rfl (ent_nil _) ?_
  refine sd_nil ?_
  (refine sn_then ?_; refine sw_seq ?_; refine sw_region ?_; (iterate 2 refine so_1 rfl ?_); refine so_nil ?_; refine sn_then ?_; refine sw_ret ?_)
  have hlen : (outL i L).length = i + (L.length - (i + 1)) := by simp [outL]; omega
  refine sn_ret rfl (.tmp rfl .nil) (((ent_keep 4 [3, 1, 2] rfl rfl : Ent _ (all (refF L) :: pt gr t_entrepotref08_Store [.int .i64 w, .int .i64 r, .slice A7 (i + (L.length - (i + 1))) c7] :: rR A7 c7 (i + (L.length - (i + 1))) (L.take i ++ L.drop (i + 1)) :: F)).trans (ent_out (B := [rE L[i].v L[i].b]) hperm)).trans (ent_keep 4 [2, 3, 1] rfl rfl)) ?_
  exact ⟨rfl, A7, c7, by rw [hlen]⟩
end
end Go.Proofs.Ytahimopjohdkjaa
/- Blobs, part twenty-eight: the document's store: Put. Conditions: not too many. -/
namespace Go.Proofs.Ytahimopjohdkjaa
open Go.Eng Go.RowKit Go.WideMaps

def bAt (id : List Int) (L : List RB) : List Int := match L[atM id L]? with | some e => e.b | none => []
def refE (id xs : List Int) (w r : Int) (L : List RB) : Int := if 4096 < xs.length then 4 else if cutR (sumM xs) w = id then (if isM id L then (if bAt id L = xs then 0 else 9) else if r < rSum L + xs.length then 10 else 0) else 8
def refIs (id xs : List Int) (w r : Int) (L : List RB) : Bool := decide (refE id xs w r L = 0) && !isM id L
abbrev putL (i : Nat) (e : RB) (L : List RB) : List RB := L.take i ++ e :: L.drop i
section
variable {b : World} {F : List SP} {gr : Nat} {w r : Int} {A : Option Addr} {c n : Nat} {L : List RB} {id xs : List Int} {vb : Value}
set_option maxHeartbeats 4000000 in
theorem refPut_S (hb : ∀ w, Sat b F w → VL (Value.int .u8) w vb xs) (hlen : xs.length ≤ 1000000) (hx : byteW xs) (hid : id.length = 32) (h32 : id32 L) (hone : ∀ e ∈ L, e.v.oneCell' = true) (hbw : ∀ e ∈ L, byteW e.b) (hn : n = L.length) (hm : n ≤ 100000) (hs : rSum L ≤ 67108864) :
    SC Try.prog n_p_entrepotref08_Store_Put [.pointer (some ⟨gr, 0, none⟩), idV id, vb] b (stR gr w r A c n L F)
      (fun v F' => v = .tuple ⟨[.bool (refIs id xs w r L), .int .i64 (refE id xs w r L)]⟩ ∧
        if refIs id xs w r L then ∃ A' c' v1, v1.oneCell' = true ∧ F' = stR gr w r A' c' (L.length + 1) (putL (atM id L) ⟨id, xs, v1⟩ L) F else F' = stR gr w r A c n L F) := by
  subst hn
  have hcl := cutR_len (sumM xs) w (sumM_len xs)
  have hOf : ∀ {b : World} {F : List SP}, (∀ w, Sat b F w → VL (Value.int .u8) w vb xs) → SC Try.prog n_entrepotref02_Of [vb, .int .i64 w] b F (fun v F' => v = .tuple ⟨[idV (cutR (sumM xs) w), .int .i64 (cutE w)]⟩ ∧ F' = F) := fun h => by
    have := refOf_S (w := w) hlen h
    rwa [sum_RM] at this
  have hle := atM_le id L
  have hsn := rSum_nn L
  refine enterS F_p_entrepotref08_Store_Put rfl rfl rfl ?_
  refine sw_fact (fun w H => (H.oat (k := 1) rfl).form) ?_
  rintro ⟨A', c', hv, k1, k2, k3⟩
  cases hv
  refine sw_fact (fun w H => (hb w (H.ent (ent_keep 3 [] rfl rfl))).form) ?_
  rintro ⟨bA, bc, rfl, f1, f2, f3, f4⟩
  (refine sw_seq ?_; refine sw_region ?_)
  refine so_box rfl rfl rfl rfl rfl fun g4 => ?_
  ((iterate 2 refine so_1 rfl ?_); refine so_nil ?_; refine sn_then ?_; refine sw_seq ?_; refine sw_region ?_; (iterate 4 refine so_1 rfl ?_); refine so_l 1 rfl rfl rfl ?_)
  refine so_callE rfl rfl rfl (hOf (up hb (ent_keep 4 [] rfl rfl))) ?_
  generalize hdd : cutR (sumM xs) w = own at *
  ((iterate 3 refine so_1 rfl ?_))
  refine so_new rfl rfl rfl rfl rfl fun g8 => ?_
  refine so_stW 0 rfl rfl rfl rfl rfl rfl rfl (by rw [u8s_len, hcl]; rfl) (u8s_one _) (by simp [hcl]) ?_
  (refine so_1 rfl ?_; refine so_nil ?_; refine sn_then ?_; refine sw_seq ?_; refine sw_region ?_; refine so_1 rfl ?_)
  refine so_ldA 1 rfl rfl rfl rfl rfl rfl (segID hid) rfl ?_
  refine so_callE rfl rfl rfl ((at_S (F := pt g8 t_api_ID (u8s own) :: pt g4 t_api_ID (u8s id) :: F) hid h32 rfl hm).at (ent_keep 5 [2, 3, 4, 0, 1] rfl rfl) (ent_keep 5 [3, 4, 0, 1, 2] rfl rfl)) ?_
  ((iterate 5 refine so_1 rfl ?_); refine so_nil ?_; refine sn_then ?_; refine sw_seq ?_; refine sw_block ?_; refine sw_seq ?_; refine sw_region ?_; (iterate 4 refine so_1 rfl ?_); refine so_nil ?_; refine sn_then ?_)
  by_cases h1 : 4096 < xs.length
  · have e0 : refE id xs w r L = 4 := by rw [refE, if_pos h1]
    have e1 : refIs id xs w r L = false := by rw [refIs, e0]; rfl
    refine sw_if rfl (fun h => ?_) (fun h => absurd (by omega) h)
    (refine sw_seq ?_; refine sw_region ?_; (iterate 2 refine so_1 rfl ?_); refine so_nil ?_; refine sn_then ?_; refine sw_ret ?_; refine sn_block_ret ?_; refine sn_then_ret ?_)
    refine sn_ret rfl (.tmp rfl (.tmp rfl .nil)) (ent_keep 2 [] rfl rfl) ?_
    rw [e0, e1]
    exact ⟨rfl, rfl⟩
  refine sw_if rfl (fun h => absurd h (by omega)) (fun h => ?_)
  (refine sw_seq ?_; refine sw_region ?_)
  refine so_ldA 0 rfl rfl rfl rfl rfl rfl (segID hcl) rfl ?_
  refine so_ldA 1 rfl rfl rfl rfl rfl rfl (segID hid) rfl ?_
  refine so_pu rfl (pu_neI (as00 := own) (bs := id) rfl rfl hcl hid) rfl ?_
  (refine so_1 rfl ?_; refine so_nil ?_; refine sn_then ?_)
  by_cases h2 : own = id
  rotate_left
  · have e0 : refE id xs w r L = 8 := by rw [refE, if_neg h1, if_neg (by rw [hdd]; exact h2)]
    have e1 : refIs id xs w r L = false := by rw [refIs, e0]; rfl
    refine sw_know 32 (.bool true) rfl (by simp [h2]) ?_
    (refine sw_cond_t rfl ?_; refine sw_seq ?_; refine sw_region ?_; (iterate 2 refine so_1 rfl ?_); refine so_nil ?_; refine sn_then ?_; refine sw_ret ?_; refine sn_block_ret ?_; refine sn_then_ret ?_)
    refine sn_ret rfl (.tmp rfl (.tmp rfl .nil)) (ent_keep 2 [] rfl rfl) ?_
    rw [e0, e1]
    exact ⟨rfl, rfl⟩
  refine sw_know 32 (.bool false) rfl (by simp [h2]) ?_
  cases hM : isM id L with
  | true =>
    obtain ⟨h3, h4⟩ := isM_at hM
    have hbA : bAt id L = L[atM id L].b := by simp only [bAt, List.getElem?_eq_getElem h3]
    have hc0 := refC_v h32 h3
    have hbb := hbw _ (List.getElem_mem h3)
    have hvl := fun (b : World) (F : List SP) (k : Nat) (hk : nth F k = some (all (refF L))) => ref_vl (b := b) hk h3
    have eF : refIs id xs w r L = false := by rw [refIs, hM]; simp
    have eE : refE id xs w r L = if L[atM id L].b = xs then 0 else 9 := by rw [refE, if_neg h1, if_pos (by rw [hdd]; exact h2), if_pos hM, hbA]
    rw [eF, eE]
    generalize atM id L = i at *
    generalize L[i].b = ys at *
    generalize L[i].v = vv at *
    obtain ⟨gL, oL, rfl⟩ := k3 (by omega)
    (refine sw_cond_f rfl ?_; refine sw_seq ?_)
    refine sw_draw flo (pt g8 t_api_ID (u8s own) :: pt g4 t_api_ID (u8s id) :: stR gr w r (some ⟨gL, oL, none⟩) c L.length L F) (by decide +kernel) (Ent.refl _) ?_
    ((iterate 5 refine sd_1 rfl (.inl rfl) ?_); refine sd_l 2 rfl rfl rfl rfl ?_; refine sd_1 rfl (.inl rfl) ?_; refine sd_2 rfl rfl (by omega) ?_; refine sd_1 rfl (.inl rfl) ?_)
    have hc := row_cell (b := b) (F := pt g8 t_api_ID (u8s own) :: pt g4 t_api_ID (u8s id) :: stR gr w r (some ⟨gL, oL, none⟩) c L.length L F) (k := 3) rfl hc0
    refine sd_rd rfl (fun w H => ex_load rfl rfl rfl (by rw [mulz_eq, Int.toNat_natCast, Nat.add_assoc]; exact hc w H)) rfl rfl ?_
    refine sd_b2s rfl rfl rfl rfl rfl rfl rfl rfl (hvl _ _ 4 rfl) ?_
    (refine sd_1 rfl (.inl rfl) ?_)
    refine sd_b2s rfl rfl rfl rfl rfl rfl rfl rfl (up hb (ent_keep 5 [] rfl rfl)) ?_
    ((iterate 3 refine sd_1 rfl (.inl rfl) ?_))
    by_cases hyx : ys = xs
    · refine sd_know 36 (.bool false) rfl (by simp [hyx]) ?_
      refine sd_nil ?_
      (refine sn_then ?_; refine sw_cond_f rfl ?_; refine sw_seq ?_; refine sw_region ?_; (iterate 2 refine so_1 rfl ?_); refine so_nil ?_; refine sn_then ?_; refine sw_cond_t rfl ?_; refine sw_seq ?_; refine sw_region ?_; (iterate 2 refine so_1 rfl ?_); refine so_nil ?_; refine sn_then ?_; refine sw_ret ?_; refine sn_block_ret ?_; refine sn_then_ret ?_)
      refine sn_ret rfl (.tmp rfl (.tmp rfl .nil)) (ent_keep 2 [] rfl rfl) ?_
      rw [if_pos hyx]
      exact ⟨rfl, rfl⟩
    · refine sd_know 36 (.bool true) rfl (by have : ¬ (strOfNums ys).data = (strOfNums xs).data := fun e => hyx (strOf_inj hbb hx e)
                                             simp [this]) ?_
      refine sd_nil ?_
      (refine sn_then ?_; refine sw_cond_t rfl ?_; refine sw_seq ?_; refine sw_region ?_; (iterate 2 refine so_1 rfl ?_); refine so_nil ?_; refine sn_then ?_; refine sw_ret ?_; refine sn_block_ret ?_; refine sn_then_ret ?_)
      refine sn_ret rfl (.tmp rfl (.tmp rfl .nil)) (ent_keep 2 [] rfl rfl) ?_
      rw [if_neg hyx]
      exact ⟨rfl, rfl⟩
  | false =>
    (refine sw_cond_f rfl ?_; refine sw_seq ?_)
    refine sw_draw flo (pt g8 t_api_ID (u8s own) :: pt g4 t_api_ID (u8s id) :: stR gr w r A c L.length L F) (by decide +kernel) (Ent.refl _) ?_
    ((iterate 16 refine sd_1 rfl (.inl rfl) ?_))
    refine sd_nil ?_
    (refine sn_then ?_; refine sw_cond_f rfl ?_; refine sw_seq ?_; refine sw_region ?_; (iterate 2 refine so_1 rfl ?_); refine so_nil ?_; refine sn_then ?_; refine sw_cond_f rfl ?_; refine sw_seq ?_)
    refine sw_draw flo (pt g8 t_api_ID (u8s own) :: pt g4 t_api_ID (u8s id) :: stR gr w r A c L.length L F) (by decide +kernel) (Ent.refl _) ?_
    (refine sd_1 rfl (.inl rfl) ?_)
    refine sd_callE rfl rfl rfl rfl ((refUsed_S (F := pt g8 t_api_ID (u8s own) :: pt g4 t_api_ID (u8s id) :: F) h32 rfl hm hs).at (ent_keep 5 [2, 3, 4, 0, 1] rfl rfl) (ent_keep 5 [3, 4, 0, 1, 2] rfl rfl)) (Ent.refl _) ?_
    ((iterate 2 refine sd_1 rfl (.inl rfl) ?_); refine sd_2 rfl rfl (by (unfold I64; omega)) ?_; (iterate 3 refine sd_1 rfl (.inl rfl) ?_); refine sd_l 2 rfl rfl rfl rfl ?_; (iterate 2 refine sd_1 rfl (.inl rfl) ?_))
    refine sd_nil ?_
    by_cases h5 : r < rSum L + xs.length
    · have eE : refE id xs w r L = 10 := by rw [refE, if_neg h1, if_pos (by rw [hdd]; exact h2), if_neg (by rw [hM]; simp), if_pos h5]
      have eF : refIs id xs w r L = false := by rw [refIs, eE]; rfl
      (refine sn_then ?_)
      refine sw_if rfl (fun h => ?_) (fun h => absurd h5 h)
      (refine sw_seq ?_; refine sw_region ?_; (iterate 2 refine so_1 rfl ?_); refine so_nil ?_; refine sn_then ?_; refine sw_ret ?_; refine sn_block_ret ?_; refine sn_then_ret ?_)
      refine sn_ret rfl (.tmp rfl (.tmp rfl .nil)) (ent_keep 2 [] rfl rfl) ?_
      rw [eE, eF]
      exact ⟨rfl, rfl⟩
    have eE : refE id xs w r L = 0 := by rw [refE, if_neg h1, if_pos (by rw [hdd]; exact h2), if_neg (by rw [hM]; simp), if_neg h5]
    have eF : refIs id xs w r L = true := by rw [refIs, eE, hM]; rfl
    (refine sn_then ?_)
    refine sw_if rfl (fun h => absurd h h5) (fun h => ?_)
    (refine sw_skip ?_; refine sn_block ?_; refine sn_then ?_; refine sw_seq ?_)
    refine sw_float (fl := flo) 5 12 (pt g4 t_api_ID (u8s id) :: F) (by decide +kernel) rfl rfl rfl rfl (ent_keep 5 [1] rfl rfl) ?_
    refine sv_ldA 0 rfl rfl rfl rfl rfl rfl rfl rfl rfl (segID hid) rfl rfl ?_
    refine sv_lit0 rfl rfl rfl rfl rfl rfl rfl rfl rfl (ent_keep 5 [1] rfl rfl) fun g66 => ?_
    (refine sv_1 rfl rfl rfl rfl (.inl rfl) ?_)
    refine sv_ent (ent_blk_row (n := 0) (sz := 1) rfl (by rfl) (by omega) 0 rfl rfl) ?_
    refine sv_append 0 rfl rfl rfl rfl rfl rfl rfl rfl rfl rfl rfl rfl rfl (up hb (ent_keep 6 [] rfl rfl)) (u8s_one _) (by omega) (fun _ => rfl) (fun _ => ent_keep 6 [2] rfl rfl) fun v68 => ?_
    refine sv_fact (fun w H => (H.oat (k := 0) rfl).form) ?_
    rintro ⟨A6, c6, rfl, _, _, _⟩
    refine sv_B rfl rfl rfl rfl rfl rfl rfl ⟨(by show (u8s id).length = 32; rw [u8s_len, hid]), rfl, trivial⟩ ?_
    (refine sv_at ?_)
    refine sv_join rfl (by decide +kernel) rfl fun g12 => ⟨ent_keep 7 [3] rfl rfl, ?_⟩
    have hl33 : (u8s id ++ [Value.slice A6 (0 + xs.length) c6]).length = 33 := by rw [List.length_append, u8s_len, hid]; rfl
    refine sd_stW (vs := u8s id ++ [Value.slice A6 (0 + xs.length) c6]) 0 rfl rfl rfl rfl rfl rfl rfl rfl hl33 (fun u hu => ?_) hl33 (ent_keep 7 [3] rfl rfl) ?_
    · rcases List.mem_append.1 hu with hu | hu
      · exact u8s_one _ u hu
      · simp at hu; subst hu; rfl
    refine sd_nil ?_
    rw [Nat.zero_add] at hl33 ⊢
    (refine sn_then ?_; refine sw_seq ?_)
    have ht := refC_take h32 (atM id L) hle
    have hd := refC_drop h32 (atM id L) hle
    have hperm : (refF (putL (atM id L) ⟨id, xs, .slice A6 xs.length c6⟩ L)).Perm ([rE (.slice A6 xs.length c6) xs] ++ refF L) := by
      have e : refF L = refF (L.take (atM id L)) ++ refF (L.drop (atM id L)) := by rw [← refF_app, List.take_append_drop]
      rw [putL, refF_app, e, refF]
      exact List.perm_middle
    have hcat : ∀ j : List RB, j = L.drop (atM id L) → refC (L.take (atM id L)) ++ ((u8s id ++ [Value.slice A6 xs.length c6]) ++ refC j) = refC (putL (atM id L) ⟨id, xs, .slice A6 xs.length c6⟩ L) := fun j hj => by subst hj; rw [putL, refC_app]; rfl
    generalize atM id L = i at *
    refine sw_draw2 flo 19 (pt g12 t_entrepotref08_Blob (u8s id ++ [Value.slice A6 xs.length c6]) :: pt gr t_entrepotref08_Store [.int .i64 w, .int .i64 r, .slice A L.length c] :: F) [] rfl (by decide +kernel) (ent_keep 7 [0, 4] rfl rfl) ?_
    ((iterate 4 refine sd_1 rfl (.inl rfl) ?_); refine sd_l 1 rfl rfl rfl rfl ?_; refine sd_1 rfl (.inl rfl) ?_; refine sd_2 rfl rfl (by omega) ?_)
    refine sd_ldA 0 rfl rfl rfl rfl rfl rfl (segO_all hl33.symm) rfl rfl ?_
    refine sd_lit1 rfl rfl rfl rfl rfl rfl rfl rfl hl33 (by decide) (ent_keep 7 [0, 4] rfl rfl) fun g78 => ?_
    ((iterate 3 refine sd_1 rfl (.inl rfl) ?_); refine sd_l 1 rfl rfl rfl rfl ?_; refine sd_1 rfl (.inl rfl) ?_; refine sd_2 rfl rfl (by omega) ?_)
    have hi1 : ((i : Int)).toNat = i := by omega
    refine sd_know 76 (.slice A i c) rfl rfl ?_
    refine sd_know 84 (.slice (if c = i then A else A.map (·.add (i * 33))) (L.length - i) (c - i)) rfl (by rw [hi1]) ?_
    refine sd_ent (ent_blk_row (n := 1) (sz := 33) rfl hl33 (by omega) 0 rfl rfl) ?_
    refine sd_append 0 rfl rfl rfl rfl rfl rfl rfl rfl rfl rfl (row_drop_sl (k := 6) rfl hle) (fun u hu => refC_one hone (List.mem_of_mem_drop hu)) (by omega) (fun _ => rfl) (fun _ => ent_keep 8 [1, 5] rfl rfl) fun v85 => ?_
    refine sd_appendP 6 rfl rfl rfl rfl rfl rfl rfl rfl rfl rfl hle (fun w H => (H.oat (k := 0) rfl).sl) (fun u hu => ?_) (by omega) (fun _ => rfl) (fun _ => ent_keep 8 [1, 5] rfl rfl) fun v86 => ?_
    · rcases List.mem_append.1 hu with hu | hu
      · rcases List.mem_append.1 hu with hu | hu
        · exact u8s_one _ u hu
        · simp at hu; subst hu; rfl
      · exact refC_one hone (List.mem_of_mem_drop hu)
    rw [ht, hd, hcat _ rfl]
    refine sd_fact (fun w H => (H.oat (k := 6) rfl).form) ?_
    rintro ⟨A7, c7, rfl, _, _, _⟩
    ((iterate 2 refine sd_1 rfl (.inl rfl) ?_))
    refine sd_nil (sn_draw2 rfl (ent_nil _) ?_)
    refine sd_st 5 rfl rfl rfl rfl rfl rfl rfl rfl rfl rfl rfl (ent_nil _) ?_
    refine sd_nil ?_
    (refine sn_then ?_; refine sw_seq ?_; refine sw_region ?_; (iterate 2 refine so_1 rfl ?_); refine so_nil ?_; refine sn_then ?_; refine sw_ret ?_)
    have e1 : i + (1 + (L.length - i)) = L.length + 1 := by omega
    rw [e1]
    refine sn_ret rfl (.tmp rfl (.tmp rfl .nil)) ((((ent_keep 8 [2, 7, 5, 6] rfl rfl : Ent _ (row 5 1 (.slice A6 xs.length c6) xs.length ([] ++ u8s xs) :: all (refF L) :: pt gr t_entrepotref08_Store [.int .i64 w, .int .i64 r, .slice A7 (L.length + 1) c7] :: rR A7 c7 (L.length + 1) (putL i ⟨id, xs, .slice A6 xs.length c6⟩ L) :: F)).trans (ent_set 0 rfl (B := rE (.slice A6 xs.length c6) xs) (fun h hA => .inr hA) rfl)).trans (ent_in (B := [rE (.slice A6 xs.length c6) xs]) hperm)).trans (ent_keep 3 [1, 2, 0] rfl rfl)) ?_
    rw [eE, eF, if_pos rfl]
    exact ⟨rfl, A7, c7, .slice A6 xs.length c6, rfl, rfl⟩
end
end Go.Proofs.Ytahimopjohdkjaa
/- Blobs, part twenty-nine: the store and the document's hold the same. Conditions: none. -/
namespace Go.Proofs.Ytahimopjohdkjaa
open Go.Eng Go.RowKit Go.WideMaps

structure RelI (w r u : Int) (l : List Kp) (L : List RB) : Prop where
  st : StI w r u l
  pm : (L.map fun e => (e.id, e.b)).Perm (l.map fun e => (e.id, e.b))
  so : (L.map (·.id)).Pairwise leM
  one : ∀ e ∈ L, e.v.oneCell' = true
theorem cmp_IM {x y : List Int} (hx : byteW x) (hy : byteW y) : cmpM x y = cmpI x y := cmpM_I hx hy
theorem leM_anti {x y : List Int} (hx : byteW x) (hy : byteW y) (h1 : leM x y) (h2 : leM y x) : x = y := u8l_inj hx hy (cb_zero _ _ h2 h1)
section
variable {w r u : Int} {l : List Kp} {L : List RB} (h : RelI w r u l L)
include h
theorem RelI.ids : (L.map (·.id)).Perm (l.map (·.id)) := by
  have := h.pm.map (·.1)
  rw [List.map_map, List.map_map] at this; exact this
theorem RelI.mem {e : RB} (he : e ∈ L) : ∃ x ∈ l, x.id = e.id ∧ x.b = e.b := by
  have : (e.id, e.b) ∈ l.map fun e => (e.id, e.b) := h.pm.subset (List.mem_map.2 ⟨e, he, rfl⟩)
  obtain ⟨x, hx, hxe⟩ := List.mem_map.1 this
  simp only [Prod.mk.injEq] at hxe
  exact ⟨x, hx, hxe.1, hxe.2⟩
theorem RelI.ok {e : RB} (he : e ∈ L) : idOk e.id ∧ byteW e.b ∧ e.b.length ≤ 4100 := by
  obtain ⟨x, hx, h1, h2⟩ := h.mem he
  exact ⟨by rw [← h1, h.st.ids x hx]; exact idOk_cut _ _, by rw [← h2]; exact h.st.bw x hx, by rw [← h2]; exact h.st.ln x hx⟩
theorem RelI.i32 : id32 L := fun e he => (h.ok he).1.1
theorem RelI.len : L.length = l.length := by have := h.pm.length_eq; simpa using this
theorem RelI.sum : rSum L = u := by
  rw [h.st.us, rSum, lenSum]
  have := sum_perm (h.pm.map fun p => (p.2.length : Int))
  rw [List.map_map, List.map_map] at this; exact this
theorem RelI.find {id : List Int} (hid : idOk id) : (isM id L = true → ∃ e, findK id l = some e ∧ ∃ h1 : atM id L < L.length, e.b = L[atM id L].b) ∧ (isM id L = false → findK id l = none) := by
  refine ⟨fun hM => ?_, fun hM => ?_⟩
  · obtain ⟨h1, h2⟩ := isM_at hM
    obtain ⟨x, hx, h3, h4⟩ := h.mem (List.getElem_mem h1)
    exact ⟨x, by rw [← h2, ← h3]; exact findK_nd h.st.nd hx, h1, h4⟩
  · cases hf : findK id l with
    | none => rfl
    | some e =>
      exfalso
      obtain ⟨he, hei⟩ := findK_mem hf
      have hm : (e.id, e.b) ∈ L.map fun e => (e.id, e.b) := h.pm.symm.subset (List.mem_map.2 ⟨e, he, rfl⟩)
      obtain ⟨x, hx, hxe⟩ := List.mem_map.1 hm
      simp only [Prod.mk.injEq] at hxe
      obtain ⟨k, hk, rfl⟩ := List.mem_iff_getElem.1 hx
      have hkid : L[k].id = id := hxe.1.trans hei
      have hkk : ¬ k < atM id L := fun hlt => by
        have hc := (atM_step (id := id) hk (by omega)).1 hlt
        rw [hkid, cmpI_self] at hc; omega
      have hal : atM id L < L.length := by omega
      have hna : ¬ cmpI L[atM id L].id id < 0 := fun hc => by have := (atM_step (id := id) hal (Nat.le_refl _)).2 hc; omega
      have hb1 := idOk_byte (h.ok (List.getElem_mem hal)).1
      have hb2 := idOk_byte hid
      have hle1 : leM id L[atM id L].id := by unfold leM; rw [cmp_IM hb1 hb2]; exact hna
      have hle2 : leM L[atM id L].id id := by
        by_cases e : atM id L = k
        · have : L[atM id L].id = id := by simp only [e]; exact hkid
          rw [this]; exact fun hc => cb_asymm _ _ hc hc
        · have := List.pairwise_iff_getElem.1 h.so (atM id L) k (by simpa using hal) (by simpa using hk) (by omega)
          simp only [List.getElem_map] at this
          rw [hkid] at this; exact this
      have heq := leM_anti hb1 hb2 hle2 hle1
      unfold isM at hM
      rw [List.getElem?_eq_getElem hal] at hM
      simp [heq] at hM
theorem RelI.drop {id : List Int} {e : Kp} (hf : findK id l = some e) (h1 : atM id L < L.length) (h2 : L[atM id L].id = id) : RelI w r (u - e.b.length) (delK id l) (outL (atM id L) L) := by
  obtain ⟨l1, l2, hl, h3, h4, _⟩ := kF_perm hf
  have hst := h.st.drop hf
  have hdk : delK id l = l1 ++ l2 := by rw [hl]; exact delK_split h4 h3
  rw [hdk] at hst ⊢
  refine ⟨hst, ?_, ?_, fun x hx => h.one x ?_⟩
  · have hL : L = L.take (atM id L) ++ L[atM id L] :: L.drop (atM id L + 1) := by rw [← List.drop_eq_getElem_cons h1, List.take_append_drop]
    have hp := h.pm
    obtain ⟨x, hx, hx1, hx2⟩ := h.mem (List.getElem_mem h1)
    have hxe : x = e := by
      have a1 := findK_nd h.st.nd hx
      rw [hx1, h2] at a1
      exact Option.some.inj (a1.symm.trans hf)
    subst hxe
    rw [hL, hl] at hp
    simp only [List.map_append, List.map_cons, outL] at hp ⊢
    have h5 : ((L[atM id L].id, L[atM id L].b) :: ((L.take (atM id L)).map (fun e => (e.id, e.b)) ++ (L.drop (atM id L + 1)).map fun e => (e.id, e.b))).Perm ((x.id, x.b) :: (l1.map (fun e => (e.id, e.b)) ++ l2.map fun e => (e.id, e.b))) :=
      (List.perm_middle.symm.trans (by simpa using hp)).trans List.perm_middle
    rw [← hx1, ← hx2] at h5
    exact List.Perm.cons_inv h5
  · have := h.so
    refine this.sublist (List.Sublist.map _ ?_)
    conv => rhs; rw [← List.take_append_drop (atM id L) L]
    exact List.Sublist.append_left (by rw [List.drop_eq_getElem_cons h1]; exact List.sublist_cons_self _ _) _
  · rcases List.mem_append.1 hx with hx | hx
    · exact List.mem_of_mem_take hx
    · exact List.mem_of_mem_drop hx
theorem RelI.put {id xs : List Int} {g : Nat} {v1 v2 : Value} (hid : id = dg xs w) (hf : findK id l = none) (hx : byteW xs) (hlen : xs.length ≤ 4100) (hr : u + xs.length ≤ r) (hv : v2.oneCell' = true) : RelI w r (u + xs.length) (l ++ [⟨id, xs, g, v1⟩]) (putL (atM id L) ⟨id, xs, v2⟩ L) := by
  subst hid
  have hle := atM_le (dg xs w) L
  have hids := idOk_byte (idOk_cut xs w)
  have hsplit : L = L.take (atM (dg xs w) L) ++ L.drop (atM (dg xs w) L) := (List.take_append_drop _ _).symm
  refine ⟨h.st.put hf hx hlen hr, ?_, ?_, fun x hx' => ?_⟩
  · simp only [putL, List.map_append, List.map_cons, List.map_nil]
    refine List.perm_middle.trans ?_
    rw [← List.map_append, List.take_append_drop]
    exact (List.Perm.cons _ h.pm).trans (List.perm_append_singleton _ _).symm
  · simp only [putL, List.map_append, List.map_cons]
    have hso := h.so
    have hb : ∀ k (hk : k < L.length), byteW L[k].id := fun k hk => idOk_byte (h.ok (List.getElem_mem hk)).1
    have hlow : ∀ a ∈ (L.take (atM (dg xs w) L)).map (·.id), leM a (dg xs w) := fun a ha => by
      obtain ⟨e, he, rfl⟩ := List.mem_map.1 ha
      obtain ⟨k, hk, rfl⟩ := List.mem_iff_getElem.1 he
      have hk' : k < atM (dg xs w) L := by rw [List.length_take] at hk; omega
      have hkL : k < L.length := by omega
      rw [List.getElem_take]
      have hc := (atM_step (id := dg xs w) hkL (by omega)).1 hk'
      rw [← cmp_IM (hb k hkL) hids] at hc
      exact leM_of hc
    have hhigh : ∀ a ∈ (L.drop (atM (dg xs w) L)).map (·.id), leM (dg xs w) a := fun a ha => by
      obtain ⟨e, he, rfl⟩ := List.mem_map.1 ha
      obtain ⟨k, hk, rfl⟩ := List.mem_iff_getElem.1 he
      have hkL : atM (dg xs w) L + k < L.length := by rw [List.length_drop] at hk; omega
      have haL : atM (dg xs w) L < L.length := by omega
      rw [List.getElem_drop]
      have hna : ¬ cmpI L[atM (dg xs w) L].id (dg xs w) < 0 := fun hc => by have := (atM_step (id := dg xs w) haL (Nat.le_refl _)).2 hc; omega
      have h1 : leM (dg xs w) L[atM (dg xs w) L].id := by unfold leM; rw [cmp_IM (hb _ haL) hids]; exact hna
      rcases Nat.eq_zero_or_pos k with rfl | hk0
      · simpa using h1
      · have := List.pairwise_iff_getElem.1 hso (atM (dg xs w) L) (atM (dg xs w) L + k) (by simpa using haL) (by simpa using hkL) (by omega)
        simp only [List.getElem_map] at this
        exact leM_trans h1 this
    have hmid : ∀ a ∈ (L.take (atM (dg xs w) L)).map (·.id), ∀ c ∈ (L.drop (atM (dg xs w) L)).map (·.id), leM a c := fun a ha c hc => leM_trans (hlow a ha) (hhigh c hc)
    rw [hsplit, List.map_append] at hso
    obtain ⟨p1, p2, _⟩ := List.pairwise_append.1 hso
    refine List.pairwise_append.2 ⟨?_, List.pairwise_cons.2 ⟨?_, ?_⟩, ?_⟩
    · exact p1
    · exact hhigh
    · exact p2
    · intro a ha c hc
      rcases List.mem_cons.1 hc with rfl | hc
      · exact hlow a ha
      · exact hmid a ha c hc
  · rcases List.mem_append.1 hx' with hx' | hx'
    · exact h.one x (List.mem_of_mem_take hx')
    · rcases List.mem_cons.1 hx' with rfl | hx'
      · exact hv
      · exact h.one x (List.mem_of_mem_drop hx')
theorem RelI.sameIds {M : List (List Int)} (h1 : M.Pairwise leM) (h2 : M.Perm (l.map (·.id))) : M = L.map (·.id) := by
  have hb : ∀ a ∈ l.map (·.id), byteW a := fun a ha => by
    obtain ⟨e, he, rfl⟩ := List.mem_map.1 ha
    rw [h.st.ids e he]; exact idOk_byte (idOk_cut _ _)
  have hp : M.Perm (L.map (·.id)) := h2.trans h.ids.symm
  exact List.Perm.eq_of_pairwise (fun a c ha hc x y => leM_anti (hb a (h2.subset ha)) (hb c (h.ids.subset hc)) x y) h1 h.so hp
end
theorem RelI.nil (w : Int) {r : Int} (hr : 0 ≤ r) : RelI w r 0 [] [] := ⟨StI.nil w hr, .refl _, .nil, by simp⟩
end Go.Proofs.Ytahimopjohdkjaa
/- Blobs, part thirty: what is asked of both stores. Conditions: not too many. -/
namespace Go.Proofs.Ytahimopjohdkjaa
open Go.Eng Go.RowKit Go.WideMaps

section
variable {b : World} {F : List SP}
set_option maxHeartbeats 1000000 in
theorem SameIDs_S {A B : Option Addr} {c d n : Nat} {l : List (List Int)} (hl : len32 l) (hn : l.length = n) (hm : n ≤ 1000000) : SC Try.prog n_entrepotkit_SameIDs [.slice A n c, .slice B n d] b (rN A c n l :: rN B d n l :: F) (fun v F' => v = .bool true ∧ F' = rN A c n l :: rN B d n l :: F) := by
  refine enterS F_entrepotkit_SameIDs rfl rfl rfl ?_
  refine sw_fact (fun w H => (H.oat (k := 0) rfl).form) ?_
  rintro ⟨A', c', hv, k1, k2, k3⟩
  cases hv
  refine sw_fact (fun w H => (H.oat (k := 1) rfl).form) ?_
  rintro ⟨B', d', hv, q1, q2, q3⟩
  cases hv
  (refine sw_seq ?_; refine sw_region ?_; refine so_1 rfl ?_; refine so_nil ?_; refine sn_then ?_; refine sw_seq ?_; refine sw_region ?_; (iterate 6 refine so_1 rfl ?_); refine so_nil ?_; refine sn_then ?_; (iterate 2 refine sw_seq ?_); refine sw_region ?_; refine so_1 rfl ?_; refine so_nil ?_; refine sn_then ?_; refine sw_block ?_)
  refine sw_know 5 (.bool true) rfl (by simp) ?_
  refine sw_loop (S := Nat) (fun i => [(0, .slice A n c), (1, .slice B n d), (5, .bool true), (6, .int .i64 (i : Int))]) (fun _ => rN A c n l :: rN B d n l :: F) (fun i => i ≤ n) (fun i => n - i) 0 ⟨rfl, rfl, rfl, rfl, trivial⟩ (Ent.refl _) (Nat.zero_le _) ?_
  intro i hi
  ((iterate 2 refine sw_seq ?_); refine sw_region ?_; (iterate 7 refine so_1 rfl ?_); refine so_nil ?_; refine sn_then ?_)
  refine sw_if rfl (fun h1 => ?_) (fun h1 => ?_)
  · have h1' : i < l.length := by omega
    obtain ⟨gA, oA, rfl⟩ := k3 (by omega)
    obtain ⟨gB, oB, rfl⟩ := q3 (by omega)
    have hs := idsC_seg hl h1'
    have hx := len32_get hl h1'
    generalize l.getD i [] = x at *
    (refine sw_skip ?_; refine sn_then ?_; refine sw_seq ?_; refine sw_block ?_)
    refine sw_draw flo (rN (some ⟨gA, oA, none⟩) c n l :: rN (some ⟨gB, oB, none⟩) d n l :: F) (by decide +kernel) (Ent.refl _) ?_
    ((iterate 2 refine sd_1 rfl (.inl rfl) ?_); refine sd_2 rfl rfl (by omega) ?_)
    refine sd_ldrow 0 (i * 32) rfl rfl rfl rfl rfl rfl rfl rfl (by rw [mulz_eq, Int.toNat_natCast]) (by omega) hs (by rw [u8s_len, hx]; rfl) ?_
    ((iterate 2 refine sd_1 rfl (.inl rfl) ?_); refine sd_2 rfl rfl (by omega) ?_)
    refine sd_ldrow 1 (i * 32) rfl rfl rfl rfl rfl rfl rfl rfl (by rw [mulz_eq, Int.toNat_natCast]) (by omega) hs (by rw [u8s_len, hx]; rfl) ?_
    refine sd_pu rfl (pu_eqI (as00 := x) (bs := x) rfl rfl hx hx) rfl rfl ?_
    refine sd_know 29 (.bool true) rfl (by simp) ?_
    (refine sd_1 rfl (.inl rfl) ?_)
    refine sd_nil ?_
    (refine sn_block ?_; refine sn_then ?_; refine sw_region ?_; refine so_1 rfl ?_; refine so_2 rfl (by (unfold I64; omega)) ?_; refine so_1 rfl ?_; refine so_nil ?_)
    refine sn_round (i + 1) ⟨rfl, rfl, rfl, rfl, trivial⟩ (Ent.refl _) ?_ ?_
    · show i + 1 ≤ n
      omega
    · show n - (i + 1) < n - i
      omega
  · (refine sw_exit ?_; refine sn_then_exit ?_; refine sn_loop_exit ?_; refine sn_block_exit ?_; refine sn_then ?_; refine sw_seq ?_; refine sw_region ?_; (iterate 2 refine so_1 rfl ?_); refine so_nil ?_; refine sn_then ?_; refine sw_ret ?_)
    refine sn_ret rfl (.tmp rfl .nil) (Ent.refl _) ?_
    exact ⟨rfl, rfl⟩
set_option maxHeartbeats 1000000 in
theorem OverIDs_S {A : Option Addr} {c n : Nat} {l : List (List Int)} (hl : len32 l) (hn : l.length = n) (hm : n ≤ 1000000) : SC Try.prog n_entrepotkit_OverIDs [.slice A n c] b (rN A c n l :: F) (fun _ F' => ∃ l', F' = rN A c n l' :: F) := by
  refine enterS F_entrepotkit_OverIDs rfl rfl rfl ?_
  refine sw_fact (fun w H => (H.oat (k := 0) rfl).form) ?_
  rintro ⟨A', c', hv, k1, k2, k3⟩
  cases hv
  (refine sw_seq ?_; refine sw_region ?_; refine so_1 rfl ?_; refine so_nil ?_; refine sn_then ?_; refine sw_block ?_)
  refine sw_loop (S := Nat × List (List Int)) (fun s => [(0, .slice A n c), (2, .int .i64 (s.1 : Int))]) (fun s => rN A c n s.2 :: F) (fun s => s.1 ≤ n ∧ len32 s.2 ∧ s.2.length = n) (fun s => n - s.1) (0, l) ⟨rfl, rfl, trivial⟩ (Ent.refl _) ⟨Nat.zero_le _, hl, hn⟩ ?_
  rintro ⟨i, m⟩ ⟨i1, i2, i3⟩
  dsimp only at i1 i2 i3 ⊢
  ((iterate 2 refine sw_seq ?_); refine sw_region ?_; (iterate 4 refine so_1 rfl ?_); refine so_nil ?_; refine sn_then ?_)
  refine sw_if rfl (fun h1 => ?_) (fun h1 => ?_)
  · obtain ⟨gA, oA, rfl⟩ := k3 (by omega)
    have h1' : i < m.length := by omega
    obtain ⟨x, hxd⟩ : ∃ x : List Int, x = [1, 2, 3] ++ List.replicate 29 0 := ⟨_, rfl⟩
    have hx : x.length = 32 := by rw [hxd]; rfl
    have hset := idsC_set i2 hx h1'
    have h32 := len32_set i2 hx i
    have hlen := idsC_len i2
    (refine sw_skip ?_; refine sn_then ?_; refine sw_seq ?_; refine sw_block ?_; refine sw_region ?_; (iterate 3 refine so_1 rfl ?_); refine so_2 rfl (by omega) ?_)
    refine so_know 11 (.agg ⟨u8s x⟩) rfl (by rw [hxd]; rfl) ?_
    refine so_strow 0 (i * 32) rfl rfl rfl rfl rfl rfl (by rw [u8s_len, hx]; rfl) rfl hset rfl (by rw [mulz_eq, Int.toNat_natCast]) ?_ (u8s_one x) ?_
    · rw [u8s_len, hx, hlen]; omega
    (refine so_nil ?_; refine sn_block ?_; refine sn_then ?_; refine sw_region ?_; refine so_1 rfl ?_; refine so_2 rfl (by (unfold I64; omega)) ?_; refine so_1 rfl ?_; refine so_nil ?_)
    refine sn_round (i + 1, m.set i x) ⟨rfl, rfl, trivial⟩ (Ent.refl _) ⟨by dsimp only; omega, h32, by dsimp only; rw [List.length_set]; exact i3⟩ (by dsimp only; omega)
  · (refine sw_exit ?_; refine sn_then_exit ?_; refine sn_loop_exit ?_; refine sn_block_exit ?_)
    refine sn_end rfl .nil (Ent.refl _) ?_
    exact ⟨m, rfl⟩
variable {gs gm gr : Nat} {w r u : Int} {l : List Kp} {L : List RB} {A : Option Addr} {c : Nat} {id : List Int}
set_option maxHeartbeats 2000000 in
theorem told_S (h : RelI w r u l L) (hid : idOk id) (hm : L.length ≤ 100000) : SC Try.prog n_entrepotlaw08_told [.pointer (some ⟨gs, 0, none⟩), .pointer (some ⟨gr, 0, none⟩), idV id] b (stB gs gm w r u l (stR gr w r A c L.length L F)) (fun v F' => v = .bool true ∧ F' = stB gs gm w r u l (stR gr w r A c L.length L F)) := by
  obtain ⟨f1, f2⟩ := h.find hid
  refine enterS F_entrepotlaw08_told rfl rfl rfl ?_
  (refine sw_seq ?_; refine sw_region ?_)
  refine so_box rfl rfl rfl rfl rfl fun g5 => ?_
  (refine so_1 rfl ?_; refine so_nil ?_; refine sn_then ?_; refine sw_seq ?_; refine sw_region ?_; refine so_1 rfl ?_)
  refine so_ldA 0 rfl rfl rfl rfl rfl rfl (segID hid.1) rfl ?_
  cases hM : isM id L with
  | false =>
    have hf := f2 hM
    refine so_callE rfl rfl rfl ((Get_none (F := pt g5 t_api_ID (u8s id) :: stR gr w r A c L.length L F) hid hf).at (ent_keep 4 [1, 2, 3, 0] rfl rfl) (ent_keep 4 [3, 0, 1, 2] rfl rfl)) ?_
    ((iterate 5 refine so_1 rfl ?_); refine so_nil ?_; refine sn_then ?_; refine sw_seq ?_; refine sw_region ?_; refine so_1 rfl ?_)
    refine so_ldA 0 rfl rfl rfl rfl rfl rfl (segID hid.1) rfl ?_
    refine so_callE rfl rfl rfl ((refGet_none (F := pt g5 t_api_ID (u8s id) :: pt gs t_blob_Store (stC w r u gm) :: mpB gm l :: all (kF l) :: F) hid.1 h.i32 rfl hm hM).at (ent_keep 7 [4, 5, 6, 0, 1, 2, 3] rfl rfl) (ent_keep 7 [3, 4, 5, 6, 0, 1, 2] rfl rfl)) ?_
    ((iterate 5 refine so_1 rfl ?_); refine so_nil ?_; refine sn_then ?_; refine sw_seq ?_; refine sw_region ?_; refine so_1 rfl ?_)
    refine so_ldA 0 rfl rfl rfl rfl rfl rfl (segID hid.1) rfl ?_
    refine so_callE rfl rfl rfl ((Size_none (F := pt g5 t_api_ID (u8s id) :: stR gr w r A c L.length L F) hid hf).at (ent_keep 4 [1, 2, 3, 0] rfl rfl) (ent_keep 4 [3, 0, 1, 2] rfl rfl)) ?_
    ((iterate 5 refine so_1 rfl ?_); refine so_nil ?_; refine sn_then ?_; refine sw_seq ?_; refine sw_region ?_; refine so_1 rfl ?_)
    refine so_ldA 0 rfl rfl rfl rfl rfl rfl (segID hid.1) rfl ?_
    refine so_callE rfl rfl rfl ((refSize_none (F := pt g5 t_api_ID (u8s id) :: pt gs t_blob_Store (stC w r u gm) :: mpB gm l :: all (kF l) :: F) hid.1 h.i32 rfl hm hM).at (ent_keep 7 [4, 5, 6, 0, 1, 2, 3] rfl rfl) (ent_keep 7 [3, 4, 5, 6, 0, 1, 2] rfl rfl)) ?_
    ((iterate 5 refine so_1 rfl ?_); refine so_nil ?_; refine sn_then ?_; refine sw_seq ?_; refine sw_region ?_; (iterate 2 refine so_1 rfl ?_))
    refine so_callE rfl rfl rfl (SameBytes_S (fun w _ => VL.nil _ w) (fun w _ => VL.nil _ w) (fun c hc => by simp at hc) (fun c hc => by simp at hc)) ?_
    ((iterate 16 refine so_1 rfl ?_); refine so_nil ?_; refine sn_then ?_; refine sw_seq ?_; refine sw_region ?_; refine so_1 rfl ?_)
    refine so_know 43 (.bool true) rfl (by simp) ?_
    skip
    refine so_ent (ent_row_nil t_uint8 1 rfl) ?_
    refine so_call rfl rfl rfl (OverBytes_S (v := .slice none 0 0) (l := []) (by simp)) ?_
    rintro _ _ ⟨l', rfl⟩
    (refine so_nil ?_; refine sn_then ?_; refine sw_seq ?_; refine sw_region ?_; (iterate 2 refine so_1 rfl ?_); refine so_nil ?_; refine sn_then ?_; refine sw_ret ?_)
    refine sn_ret rfl (.tmp rfl .nil) (ent_keep 2 [] rfl rfl) ?_
    exact ⟨rfl, rfl⟩
  | true =>
    obtain ⟨e, hf, h1, h2⟩ := f1 hM
    have hel := h.st.ln e (findK_mem hf).1
    have heb := h.st.bw e (findK_mem hf).1
    refine so_call rfl rfl rfl ((Get_some (F := pt g5 t_api_ID (u8s id) :: stR gr w r A c L.length L F) hid hf (by omega)).ent (ent_keep 4 [1, 2, 3, 0] rfl rfl)) ?_
    rintro _ _ ⟨v1, rfl, rfl⟩
    refine so_fact (fun w H => (H.oat (k := 0) rfl).form) ?_
    rintro ⟨A1, c1, rfl, _, _, _⟩
    ((iterate 5 refine so_1 rfl ?_); refine so_nil ?_; refine sn_then ?_; refine sw_seq ?_; refine sw_region ?_; refine so_1 rfl ?_)
    refine so_ldA 4 rfl rfl rfl rfl rfl rfl (segID hid.1) rfl ?_
    refine so_call rfl rfl rfl ((refGet_some (F := rB (.slice A1 e.b.length c1) e.b :: pt g5 t_api_ID (u8s id) :: pt gs t_blob_Store (stC w r u gm) :: mpB gm l :: all (kF l) :: F) hid.1 h.i32 rfl hm hM h1 (by rw [← h2]; omega)).ent (ent_keep 8 [5, 6, 7, 0, 4, 1, 2, 3] rfl rfl)) ?_
    rintro _ _ ⟨v2, rfl, rfl⟩
    rw [← h2]
    ((iterate 5 refine so_1 rfl ?_); refine so_nil ?_; refine sn_then ?_; refine sw_seq ?_; refine sw_region ?_; refine so_1 rfl ?_)
    refine so_ldA 5 rfl rfl rfl rfl rfl rfl (segID hid.1) rfl ?_
    refine so_callE rfl rfl rfl ((Size_some (F := rB v2 e.b :: rB (.slice A1 e.b.length c1) e.b :: pt g5 t_api_ID (u8s id) :: stR gr w r A c L.length L F) hid hf (by omega)).at (ent_keep 9 [6, 7, 8, 0, 4, 5, 1, 2, 3] rfl rfl) (ent_keep 9 [3, 6, 7, 8, 4, 5, 0, 1, 2] rfl rfl)) ?_
    ((iterate 5 refine so_1 rfl ?_); refine so_nil ?_; refine sn_then ?_; refine sw_seq ?_; refine sw_region ?_; refine so_1 rfl ?_)
    refine so_ldA 5 rfl rfl rfl rfl rfl rfl (segID hid.1) rfl ?_
    refine so_callE rfl rfl rfl ((refSize_some (F := rB v2 e.b :: rB (.slice A1 e.b.length c1) e.b :: pt g5 t_api_ID (u8s id) :: pt gs t_blob_Store (stC w r u gm) :: mpB gm l :: all (kF l) :: F) hid.1 h.i32 rfl hm hM h1 (by rw [← h2]; omega)).at (ent_keep 9 [1, 2, 3, 0, 4, 5, 6, 7, 8] rfl rfl) (ent_keep 9 [3, 0, 1, 2, 4, 5, 6, 7, 8] rfl rfl)) ?_
    rw [← h2]
    ((iterate 5 refine so_1 rfl ?_); refine so_nil ?_; refine sn_then ?_; refine sw_seq ?_; refine sw_region ?_; (iterate 2 refine so_1 rfl ?_))
    refine so_callE rfl rfl rfl (SameBytes_S (vlB (k := 4) rfl) (vlB (k := 0) rfl) heb heb) ?_
    (refine so_1 rfl ?_)
    refine so_know 43 (.bool true) rfl (by simp) ?_
    ((iterate 10 refine so_1 rfl ?_))
    refine so_know 53 (.bool true) rfl (by simp) ?_
    ((iterate 5 refine so_1 rfl ?_); refine so_nil ?_; refine sn_then ?_; refine sw_seq ?_; refine sw_region ?_; refine so_1 rfl ?_)
    refine so_call rfl rfl rfl ((OverBytes_S (l := e.b) (by omega)).ent (ent_keep 9 [4, 6, 7, 8, 1, 2, 3] rfl rfl)) ?_
    rintro _ _ ⟨l', rfl⟩
    (refine so_nil ?_; refine sn_then ?_; refine sw_seq ?_; refine sw_region ?_; (iterate 2 refine so_1 rfl ?_); refine so_nil ?_; refine sn_then ?_; refine sw_ret ?_)
    refine sn_ret rfl (.tmp rfl .nil) (ent_keep 1 [] rfl rfl) ?_
    exact ⟨rfl, rfl⟩
end
end Go.Proofs.Ytahimopjohdkjaa
/- Blobs, part thirty-one: calls that came in; which are too many. Conditions: none. -/
namespace Go.Proofs.Ytahimopjohdkjaa
open Go.Eng Go.RowKit Go.WideMaps

/-- A call. -/
structure AM where
  kind : Int
  id : List Int
  v : Value
  b : List Int
def actC (a : AM) : List Value := [.int .i64 a.kind] ++ (u8s a.id ++ [a.v])
structure AOk (W : World) (a : AM) : Prop where
  l32 : a.id.length = 32
  bw : byteW a.id
  vl : VL (Value.int .u8) W a.v a.b
  bb : byteW a.b
def LA (W : World) (v : Value) (acts : List AM) : Prop := ∃ A c, v = .slice A acts.length c ∧ acts.length ≤ c ∧ c ≤ 9223372036854775807 ∧ ∀ i (hi : i < acts.length), AOk W acts[i] ∧ ∃ bk off, A = some ⟨bk, off, none⟩ ∧ ∀ j u, (actC acts[i])[j]? = some u → W.cell? ⟨bk, off + (i * 34 + j), none⟩ = some u
abbrev rdAct : Rdg (Int × List Int × (Value × List Int)) := rdN 1 (rdI .i64) (rdN 32 (Go.Eng.rdA 32 .u8) (rdL 1 (rdI .u8)))
theorem act_of_rd {W : World} {cs : List Value} {x : Int × List Int × (Value × List Int)} (h : rdAct W cs x) : cs = actC ⟨x.1, x.2.1, x.2.2.1, x.2.2.2⟩ ∧ AOk W ⟨x.1, x.2.1, x.2.2.1, x.2.2.2⟩ := by
  obtain ⟨⟨h1, _⟩, ⟨h2, h3, h4⟩, h5⟩ := h
  have hcs : (cs.drop 1).drop 32 = [x.2.2.1] := h5.1
  have e5 : (cs.drop 1).drop 32 = [x.2.2.1] := hcs
  rw [hcs] at h5
  obtain ⟨h6, h7⟩ := vl_of_rd h5
  refine ⟨?_, h3, byteW_of h4, h6, byteW_of h7⟩
  conv => lhs; rw [← List.take_append_drop 1 cs, ← List.take_append_drop 32 (cs.drop 1)]
  rw [h1, h2, e5]; rfl
theorem la_of_rd {W : World} {v : Value} {x : Value × List (Int × List Int × (Value × List Int))} (h : rdL 34 rdAct W [v] x) : LA W v (x.2.map fun y => ⟨y.1, y.2.1, y.2.2.1, y.2.2.2⟩) := by
  obtain ⟨hv, ess, e1, e2, ⟨A, c, hA, hl, hc, hm, hz, hcell⟩, e4⟩ := h
  simp only [List.cons.injEq, and_true] at hv
  subst hv
  refine ⟨A, c, by rw [hA, List.length_map], by simpa using hc, by unfold maxLen at hm; omega, fun i hi => ?_⟩
  have hi' : i < x.2.length := by simpa using hi
  obtain ⟨h1, h2⟩ := act_of_rd (e4 i _ _ (List.getElem?_eq_getElem (by omega)) (List.getElem?_eq_getElem hi'))
  simp only [List.getElem_map]
  refine ⟨h2, ?_⟩
  obtain ⟨bk, off, rfl, _, hcc⟩ := hcell (by omega)
  refine ⟨bk, off, rfl, fun j u hj => ?_⟩
  rw [← h1] at hj
  have hlen : ess[i].length = 34 := e2 _ (List.getElem_mem (by omega))
  have hj34 : j < 34 := by have := (List.getElem?_eq_some_iff.1 hj).1; omega
  have hf := flat_get e2 i j hj34
  rw [List.getElem?_eq_getElem (l := ess) (i := i) (by omega), Option.bind_some, hj] at hf
  rw [hcc _ (List.getElem?_eq_some_iff.1 hf).1, hf]
section
variable {b : World} {F : List SP} {v : Value} {acts : List AM}
set_option maxRecDepth 20000 in
set_option maxHeartbeats 2000000 in
theorem long_S {k : Nat} (hl : LA b v acts) (hF : nth F k = some (Is b)) : SC Try.prog n_entrepotlaw08_long [v] b F (fun u F' => ∃ q : Bool, (q = false → acts.length ≤ 30 ∧ ∀ a ∈ acts, a.b.length ≤ 4100) ∧ u = .bool q ∧ F' = F) := by
  obtain ⟨A, c, rfl, f1, f2, f3⟩ := hl
  refine enterS F_entrepotlaw08_long rfl rfl rfl ?_
  (refine sw_seq ?_; refine sw_region ?_; refine so_1 rfl ?_; refine so_nil ?_; refine sn_then ?_; refine sw_seq ?_; refine sw_region ?_; refine so_1 rfl ?_; refine so_nil ?_; refine sn_then ?_; (iterate 2 refine sw_seq ?_); refine sw_region ?_; refine so_1 rfl ?_; refine so_nil ?_; refine sn_then ?_; refine sw_block ?_)
  refine sw_loop (S := Nat × Nat) (fun s => [(0, .slice A acts.length c), (3, .int .i64 (s.2 : Int)), (4, .int .i64 (s.1 : Int))]) (fun _ => F) (fun s => s.1 ≤ acts.length ∧ s.2 ≤ s.1 ∧ s.1 ≤ 31 ∧ ∀ k (hk : k < acts.length), k < s.1 → acts[k].b.length ≤ 4100) (fun s => acts.length - s.1) (0, 0) ⟨rfl, rfl, rfl, trivial⟩ (Ent.refl _) ⟨Nat.zero_le _, Nat.le_refl _, by omega, fun k _ h => absurd h (Nat.not_lt_zero k)⟩ ?_
  rintro ⟨i, m⟩ ⟨hi, hmi, h31, hk⟩
  dsimp only at hi hmi h31 hk ⊢
  ((iterate 2 refine sw_seq ?_); refine sw_region ?_; (iterate 5 refine so_1 rfl ?_))
  by_cases h1 : i < acts.length
  · refine so_know 9 (.bool true) rfl (by simp; omega) ?_
    ((iterate 3 refine so_1 rfl ?_); refine so_nil ?_; refine sn_then ?_)
    refine sw_if rfl (fun h2 => ?_) (fun h2 => ?_)
    · obtain ⟨hok, bk, off, rfl, hc⟩ := f3 i h1
      have hcv : ∀ w, Sat b F w → w.cell? ⟨bk, off + (i * 34 + 33), none⟩ = some acts[i].v := fun w H => (H.is hF).cell (hc 33 _ (by
        show ([Value.int .i64 acts[i].kind] ++ (u8s acts[i].id ++ [acts[i].v]))[33]? = _
        rw [List.getElem?_append_right (by simp), List.getElem?_append_right (by rw [u8s_len, hok.l32]; simp), u8s_len, hok.l32]; rfl))
      obtain ⟨A2, c2, hv2, q1, q2, q3, q4⟩ := hok.vl.form
      rw [hv2] at hcv
      have hlen : ∀ h : acts[i].b.length ≤ 4100, ∀ k (hk' : k < acts.length), k < i + 1 → acts[k].b.length ≤ 4100 := fun h k hk' hlt => by
        by_cases e : k = i
        · subst e; exact h
        · exact hk k hk' (by omega)
      generalize acts[i].b.length = n at *
      (refine sw_skip ?_; refine sn_then ?_; refine sw_seq ?_; refine sw_block ?_; (iterate 2 refine sw_seq ?_); refine sw_region ?_; (iterate 2 refine so_1 rfl ?_); refine so_2 rfl (by omega) ?_; refine so_1 rfl ?_)
      refine so_rd rfl (fun w H => ex_load rfl rfl rfl (by rw [mulz_eq, Int.toNat_natCast, Nat.add_assoc]; exact hcv w H)) rfl ?_
      ((iterate 2 refine so_1 rfl ?_); refine so_nil ?_; refine sn_then ?_)
      by_cases p1 : 80 < n
      · refine sw_know 21 (.bool true) rfl (by simp; omega) ?_
        (refine sw_cond_t rfl ?_; refine sw_region ?_; refine so_1 rfl ?_; refine so_2 rfl (by (unfold I64; omega)) ?_; refine so_1 rfl ?_; refine so_nil ?_; refine sn_then ?_; refine sw_seq ?_; refine sw_region ?_; (iterate 2 refine so_1 rfl ?_); refine so_2 rfl (by omega) ?_; refine so_1 rfl ?_)
        refine so_rd rfl (fun w H => ex_load rfl rfl rfl (by rw [mulz_eq, Int.toNat_natCast, Nat.add_assoc]; exact hcv w H)) rfl ?_
        ((iterate 3 refine so_1 rfl ?_))
        refine so_know 31 (.bool true) rfl (by simp; omega) ?_
        ((iterate 2 refine so_1 rfl ?_); refine so_2 rfl (by omega) ?_; refine so_1 rfl ?_)
        refine so_rd rfl (fun w H => ex_load rfl rfl rfl (by rw [mulz_eq, Int.toNat_natCast, Nat.add_assoc]; exact hcv w H)) rfl ?_
        ((iterate 4 refine so_1 rfl ?_))
        by_cases p2 : n < 4090
        · refine so_know 40 (.bool true) rfl (by simp; omega) ?_
          ((iterate 8 refine so_1 rfl ?_); refine so_nil ?_; refine sn_then ?_; refine sw_cond_t rfl ?_; refine sw_seq ?_; refine sw_region ?_; refine so_1 rfl ?_; refine so_nil ?_; refine sn_then ?_; refine sw_ret ?_; refine sn_block_ret ?_; refine sn_then_ret ?_; refine sn_loop_ret ?_; refine sn_block_ret ?_; refine sn_then_ret ?_)
          refine sn_ret rfl (.tmp rfl .nil) (Ent.refl _) ?_
          exact ⟨true, (fun h => by cases h), rfl, rfl⟩
        · refine so_know 40 (.bool false) rfl (by simp; omega) ?_
          ((iterate 2 refine so_1 rfl ?_); refine so_2 rfl (by omega) ?_; refine so_1 rfl ?_)
          refine so_rd rfl (fun w H => ex_load rfl rfl rfl (by rw [mulz_eq, Int.toNat_natCast, Nat.add_assoc]; exact hcv w H)) rfl ?_
          ((iterate 3 refine so_1 rfl ?_); refine so_nil ?_; refine sn_then ?_)
          refine sw_if rfl (fun p3 => ?_) (fun p3 => ?_)
          · (refine sw_seq ?_; refine sw_region ?_; refine so_1 rfl ?_; refine so_nil ?_; refine sn_then ?_; refine sw_ret ?_; refine sn_block_ret ?_; refine sn_then_ret ?_; refine sn_loop_ret ?_; refine sn_block_ret ?_; refine sn_then_ret ?_)
            refine sn_ret rfl (.tmp rfl .nil) (Ent.refl _) ?_
            exact ⟨true, (fun h => by cases h), rfl, rfl⟩
          · (refine sw_skip ?_; refine sn_block ?_; refine sn_then ?_; refine sw_region ?_; refine so_1 rfl ?_; refine so_2 rfl (by (unfold I64; omega)) ?_; refine so_1 rfl ?_; refine so_nil ?_)
            refine sn_round (i + 1, m + 1) ⟨rfl, rfl, rfl, trivial⟩ (Ent.refl _) ⟨h1, by dsimp only; omega, by dsimp only; omega, hlen (by omega)⟩ (by dsimp only; omega)
      · refine sw_know 21 (.bool false) rfl (by simp; omega) ?_
        (refine sw_cond_f rfl ?_; refine sw_skip ?_; refine sn_then ?_; refine sw_seq ?_; refine sw_region ?_; (iterate 2 refine so_1 rfl ?_); refine so_2 rfl (by omega) ?_; refine so_1 rfl ?_)
        refine so_rd rfl (fun w H => ex_load rfl rfl rfl (by rw [mulz_eq, Int.toNat_natCast, Nat.add_assoc]; exact hcv w H)) rfl ?_
        ((iterate 3 refine so_1 rfl ?_))
        refine so_know 31 (.bool false) rfl (by simp; omega) ?_
        ((iterate 11 refine so_1 rfl ?_); refine so_2 rfl (by omega) ?_; refine so_1 rfl ?_)
        refine so_rd rfl (fun w H => ex_load rfl rfl rfl (by rw [mulz_eq, Int.toNat_natCast, Nat.add_assoc]; exact hcv w H)) rfl ?_
        ((iterate 3 refine so_1 rfl ?_); refine so_nil ?_; refine sn_then ?_)
        refine sw_know 48 (.bool false) rfl (by simp; omega) ?_
        (refine sw_cond_f rfl ?_; refine sw_skip ?_; refine sn_block ?_; refine sn_then ?_; refine sw_region ?_; refine so_1 rfl ?_; refine so_2 rfl (by (unfold I64; omega)) ?_; refine so_1 rfl ?_; refine so_nil ?_)
        refine sn_round (i + 1, m) ⟨rfl, rfl, rfl, trivial⟩ (Ent.refl _) ⟨h1, by dsimp only; omega, by dsimp only; omega, hlen (by omega)⟩ (by dsimp only; omega)
    · (refine sw_exit ?_; refine sn_then_exit ?_; refine sn_loop_exit ?_; refine sn_block_exit ?_; refine sn_then ?_; refine sw_seq ?_; refine sw_region ?_; (iterate 4 refine so_1 rfl ?_))
      refine so_know 52 (.bool true) rfl (by simp; omega) ?_
      ((iterate 4 refine so_1 rfl ?_); refine so_nil ?_; refine sn_then ?_; refine sw_ret ?_)
      refine sn_ret rfl (.tmp rfl .nil) (Ent.refl _) ?_
      exact ⟨true, (fun h => by cases h), rfl, rfl⟩
  · refine so_know 9 (.bool false) rfl (by simp; omega) ?_
    ((iterate 3 refine so_1 rfl ?_); refine so_nil ?_; refine sn_then ?_; refine sw_cond_f rfl ?_; refine sw_exit ?_; refine sn_then_exit ?_; refine sn_loop_exit ?_; refine sn_block_exit ?_; refine sn_then ?_; refine sw_seq ?_; refine sw_region ?_; (iterate 4 refine so_1 rfl ?_))
    by_cases p5 : 30 < acts.length
    · refine so_know 52 (.bool true) rfl (by simp; omega) ?_
      ((iterate 4 refine so_1 rfl ?_); refine so_nil ?_; refine sn_then ?_; refine sw_ret ?_)
      refine sn_ret rfl (.tmp rfl .nil) (Ent.refl _) ?_
      exact ⟨true, (fun h => by cases h), rfl, rfl⟩
    · refine so_know 52 (.bool false) rfl (by simp; omega) ?_
      ((iterate 4 refine so_1 rfl ?_); refine so_nil ?_; refine sn_then ?_; refine sw_ret ?_)
      refine sn_ret rfl (.tmp rfl .nil) (Ent.refl _) ?_
      refine ⟨_, fun _ => ⟨by omega, fun a ha => ?_⟩, rfl, rfl⟩
      obtain ⟨k, hk', rfl⟩ := List.mem_iff_getElem.1 ha
      exact hk k hk' (by omega)
end
end Go.Proofs.Ytahimopjohdkjaa
/- Blobs, part thirty-two: Put and Drop of both stores. Conditions: not too many. -/
namespace Go.Proofs.Ytahimopjohdkjaa
open Go.Eng Go.RowKit Go.WideMaps

section
variable {b : World} {F : List SP} {gs gm gr : Nat} {w r u : Int} {l : List Kp} {L : List RB} {A : Option Addr} {c : Nat} {id xs : List Int} {vb : Value}
theorem putBoth_S (h : RelI w r u l L) (hr : r ≤ 67108864) (hid : idOk id) (hb : ∀ w, Sat b F w → VL (Value.int .u8) w vb xs) (hx : byteW xs) (hlen : xs.length ≤ 4100) :
    SC Try.prog n_p_blob_Store_Put [.pointer (some ⟨gs, 0, none⟩), idV id, vb] b (stB gs gm w r u l F) (fun v F' => v = .tuple ⟨[.bool (refIs id xs w r L), .int .i64 (refE id xs w r L)]⟩ ∧ ∃ u' l', F' = stB gs gm w r u' l' F ∧ l'.length ≤ l.length + 1 ∧
      (refIs id xs w r L = false → u' = u ∧ l' = l) ∧ (refIs id xs w r L = true → ∀ v2 : Value, v2.oneCell' = true → RelI w r u' l' (putL (atM id L) ⟨id, xs, v2⟩ L))) := by
  obtain ⟨f1, f2⟩ := h.find hid
  have hu0 : 0 ≤ u := by rw [h.st.us]; exact lenSum_nn l
  have hur := h.st.ur
  have hs := h.sum
  cases hM : isM id L with
  | false =>
    have hf := f2 hM
    refine (Put_none hb (by omega) hid hf (by omega)).mono fun v F' hh => ?_
    have e : refE id xs w r L = putE0 id xs w r u := by simp only [refE, putE0, hM, hs]; rfl
    rw [refIs, hM, e]
    by_cases h0 : putE0 id xs w r u = 0
    · rw [if_pos h0] at hh
      obtain ⟨h1, g, v1, h2⟩ := hh
      rw [h0]
      refine ⟨h1, _, _, h2, by simp, fun hc => by simp at hc, fun _ v2 hv2 => ?_⟩
      unfold putE0 at h0
      split at h0
      · omega
      · split at h0
        · rename_i hcut
          split at h0
          · omega
          · exact h.put hcut.symm hf hx hlen (by omega) hv2
        · omega
    · rw [if_neg h0] at hh
      have : decide (putE0 id xs w r u = 0) = false := decide_eq_false h0
      rw [this]
      exact ⟨hh.1, u, l, hh.2, by omega, fun _ => ⟨rfl, rfl⟩, fun hc => by simp at hc⟩
  | true =>
    obtain ⟨e, hf, h1, h2⟩ := f1 hM
    refine (Put_some hb (by omega) hid hf hx (h.st.bw e (findK_mem hf).1)).mono fun v F' hh => ?_
    have hbA : bAt id L = e.b := by simp only [bAt, List.getElem?_eq_getElem h1]; exact h2.symm
    have e1 : refE id xs w r L = putE1 id xs e w := by simp only [refE, putE1, hM, hbA]; rfl
    rw [refIs, hM, e1]
    exact ⟨by rw [hh.1]; simp, u, l, hh.2, by omega, fun _ => ⟨rfl, rfl⟩, fun hc => by simp at hc⟩
theorem dropBoth_S (h : RelI w r u l L) (hr : r ≤ 67108864) (hid : idOk id) :
    SC Try.prog n_p_blob_Store_Drop [.pointer (some ⟨gs, 0, none⟩), idV id] b (stB gs gm w r u l F) (fun v F' => v = .bool (isM id L) ∧ ∃ u' l', F' = stB gs gm w r u' l' F ∧ l'.length ≤ l.length ∧
      (isM id L = false → u' = u ∧ l' = l) ∧ (isM id L = true → RelI w r u' l' (outL (atM id L) L))) := by
  obtain ⟨f1, f2⟩ := h.find hid
  have hur := h.st.ur
  cases hM : isM id L with
  | false => exact (Drop_none hid (f2 hM)).mono fun v F' hh => ⟨hh.1, u, l, hh.2, Nat.le_refl _, fun _ => ⟨rfl, rfl⟩, fun hc => by cases hc⟩
  | true =>
    obtain ⟨e, hf, h1, h2⟩ := f1 hM
    have he := findK_mem hf
    have hel := h.st.ln e he.1
    have hle := lenSum_mem he.1
    refine (Drop_some hid hf (by omega) (by rw [h.st.us]; exact hle) (by omega)).mono fun v F' hh => ⟨hh.1, _, _, hh.2, ?_, fun hc => (by cases hc), fun _ => h.drop hf h1 (isM_at hM).2⟩
    obtain ⟨l1, l2, rfl, h3, h4, _⟩ := kF_perm hf
    rw [delK_split h4 h3]; simp
theorem refDrop_S (h : RelI w r u l L) (hid : idOk id) (hm : L.length ≤ 100000) : SC Try.prog n_p_entrepotref08_Store_Drop [.pointer (some ⟨gr, 0, none⟩), idV id] b (stR gr w r A c L.length L F)
    (fun v F' => v = .bool (isM id L) ∧ ∃ A' c' L', F' = stR gr w r A' c' L'.length L' F ∧ (isM id L = false → L' = L) ∧ (isM id L = true → L' = outL (atM id L) L)) := by
  cases hM : isM id L with
  | false => exact (refDrop_none hid.1 h.i32 rfl hm hM).mono fun v F' hh => ⟨hh.1, A, c, L, hh.2, fun _ => rfl, fun hc => by cases hc⟩
  | true => exact (refDrop_some h.one hid.1 h.i32 rfl hm hM (isM_at hM).1).mono fun v F' ⟨h1, A', c', h2⟩ => ⟨h1, A', c', _, h2, fun hc => (by cases hc), fun _ => rfl⟩
theorem refPutB_S (h : RelI w r u l L) (hr : r ≤ 67108864) (hid : idOk id) (hb : ∀ w, Sat b F w → VL (Value.int .u8) w vb xs) (hx : byteW xs) (hlen : xs.length ≤ 4100) (hm : L.length ≤ 100000) : SC Try.prog n_p_entrepotref08_Store_Put [.pointer (some ⟨gr, 0, none⟩), idV id, vb] b (stR gr w r A c L.length L F)
    (fun v F' => v = .tuple ⟨[.bool (refIs id xs w r L), .int .i64 (refE id xs w r L)]⟩ ∧ ∃ A' c' L', F' = stR gr w r A' c' L'.length L' F ∧ (refIs id xs w r L = false → L' = L) ∧ (refIs id xs w r L = true → ∃ v2 : Value, v2.oneCell' = true ∧ L' = putL (atM id L) ⟨id, xs, v2⟩ L)) := by
  have hs := h.sum
  have hur := h.st.ur
  refine (refPut_S hb (by omega) hx hid.1 h.i32 h.one (fun e he => (h.ok he).2.1) rfl hm (by omega)).mono fun v F' ⟨h1, h2⟩ => ⟨h1, ?_⟩
  cases hI : refIs id xs w r L with
  | false => rw [hI] at h2; exact ⟨A, c, L, h2, fun _ => rfl, fun hc => by cases hc⟩
  | true =>
    rw [hI] at h2
    obtain ⟨A', c', v1, h3, h4⟩ := h2
    have hle := atM_le id L
    refine ⟨A', c', _, ?_, fun hc => (by cases hc), fun _ => ⟨v1, h3, rfl⟩⟩
    rw [h4]
    congr 2
    all_goals simp [putL]; try omega
end
end Go.Proofs.Ytahimopjohdkjaa
/- Blobs, part thirty-three: BlobActs. Conditions: none. -/
namespace Go.Proofs.Ytahimopjohdkjaa
open Go.Eng Go.RowKit Go.WideMaps

theorem actC_v {a : AM} (h : a.id.length = 32) : nth (actC a) 33 = some a.v := by
  rw [nth_eq, actC, List.getElem?_append_right (by simp), List.getElem?_append_right (by rw [u8s_len, h]; simp), u8s_len, h]; rfl
theorem segO_pre {l : List Value} (m : List Value) {n : Nat} (h : l.length = n) : segO (l ++ m) 0 n = some l := by
  subst h
  induction l with
  | nil => cases m <;> rfl
  | cons x l ih => simp only [List.cons_append, List.length_cons, segO, ih]
theorem actC_id {a : AM} (h : a.id.length = 32) : segO (actC a) 1 32 = some (u8s a.id) := segO_pre (n := 32) _ (by rw [u8s_len, h])
theorem actC_len {a : AM} (h : a.id.length = 32) : (actC a).length = 34 := by simp [actC, u8s_len, h]
theorem actC_one {W : World} {a : AM} (h : AOk W a) : ∀ u ∈ actC a, u.oneCell' = true := by
  intro u hu
  obtain ⟨A, c, hv, _⟩ := h.vl.form
  simp only [actC, List.mem_append, List.mem_singleton] at hu
  rcases hu with rfl | hu | rfl
  · rfl
  · exact u8s_one _ u hu
  · rw [hv]; rfl
set_option maxRecDepth 20000 in
set_option maxHeartbeats 8000000 in
theorem walk_BlobActs {W : World} {v2 : Value} {acts : List AM} {width room : Int} (h2 : LA W v2 acts) : Calls Try.prog n_entrepotlaw08_BlobActs #[.int .i64 width, .int .i64 room, v2] W (fun e w' => e = .returned (.bool true) ∧ Ext W w') := by
  refine law_of (args := [.int .i64 width, .int .i64 room, v2]) ?_
  have h2' := h2
  obtain ⟨A0, c0, rfl, f1, f2, f3⟩ := h2'
  refine enterS F_entrepotlaw08_BlobActs rfl rfl rfl ?_
  (refine sw_seq ?_; refine sw_region ?_; refine so_1 rfl ?_; refine so_nil ?_; refine sn_then ?_; refine sw_seq ?_; refine sw_region ?_; (iterate 2 refine so_1 rfl ?_))
  by_cases hn : newOk width room
  rotate_left
  · refine so_callE rfl rfl rfl (New_blob_bad hn) ?_
    ((iterate 5 refine so_1 rfl ?_); refine so_nil ?_; refine sn_then ?_; refine sw_seq ?_; refine sw_region ?_; (iterate 2 refine so_1 rfl ?_))
    refine so_callE rfl rfl rfl (refNew_bad hn) ?_
    ((iterate 5 refine so_1 rfl ?_); refine so_nil ?_; refine sn_then ?_; (iterate 2 refine sw_seq ?_); refine sw_region ?_; (iterate 10 refine so_1 rfl ?_); refine so_nil ?_; refine sn_then ?_; refine sw_cond_f rfl ?_; refine sw_skip ?_; refine sn_then ?_; (iterate 2 refine sw_seq ?_); refine sw_region ?_; refine so_1 rfl ?_; refine so_nil ?_; refine sn_then ?_; refine sw_block ?_)
    refine sw_loop (S := Nat) (fun i => [(0, .int .i64 width), (9, .pointer none), (11, .int .i64 (i : Int))]) (fun _ => [Is W]) (fun i => i = 0) (fun i => 0) 0 ⟨rfl, rfl, rfl, trivial⟩ (Ent.refl _) rfl ?_
    intro i hi
    ((iterate 2 refine sw_seq ?_); refine sw_region ?_; (iterate 13 refine so_1 rfl ?_); refine so_nil ?_; refine sn_then ?_; refine sw_cond_f rfl ?_; refine sw_exit ?_; refine sn_then_exit ?_; refine sn_loop_exit ?_; refine sn_block_exit ?_; refine sn_then ?_; refine sw_seq ?_; refine sw_region ?_)
    refine so_callE rfl rfl rfl (awakeB_S) ?_
    (refine so_1 rfl ?_; refine so_nil ?_; refine sn_then ?_; refine sw_ret ?_)
    refine sn_ret rfl (.tmp rfl .nil) (Ent.refl _) ?_
    exact ⟨rfl, rfl⟩
  refine so_call rfl rfl rfl (New_blob_S hn) ?_
  rintro _ _ ⟨gs, gm, rfl, rfl⟩
  ((iterate 5 refine so_1 rfl ?_); refine so_nil ?_; refine sn_then ?_; refine sw_seq ?_; refine sw_region ?_; (iterate 2 refine so_1 rfl ?_))
  refine so_call rfl rfl rfl (refNew_S hn) ?_
  rintro _ _ ⟨gr, rfl, rfl⟩
  obtain ⟨w1, w2, r1, r2⟩ := hn
  ((iterate 5 refine so_1 rfl ?_); refine so_nil ?_; refine sn_then ?_; (iterate 2 refine sw_seq ?_); refine sw_region ?_; (iterate 10 refine so_1 rfl ?_); refine so_nil ?_; refine sn_then ?_; refine sw_cond_f rfl ?_; refine sw_skip ?_; refine sn_then ?_; (iterate 2 refine sw_seq ?_); refine sw_region ?_; refine so_1 rfl ?_; refine so_nil ?_; refine sn_then ?_; refine sw_block ?_)
  refine sw_loop (S := Int × List Kp × List RB × Option Addr × Nat × Nat) (fun s => [(0, .int .i64 width), (1, .int .i64 room), (2, .slice A0 acts.length c0), (7, .pointer (some ⟨gs, 0, none⟩)), (9, .pointer (some ⟨gr, 0, none⟩)), (11, .int .i64 (s.2.2.2.2.2 : Int))])
    (fun s => stB gs gm width room s.1 s.2.1 (stR gr width room s.2.2.2.1 s.2.2.2.2.1 s.2.2.1.length s.2.2.1 [Is W]))
    (fun s => RelI width room s.1 s.2.1 s.2.2.1 ∧ s.2.1.length ≤ s.2.2.2.2.2 ∧ s.2.2.2.2.2 ≤ acts.length) (fun s => acts.length - s.2.2.2.2.2) (0, [], [], none, 0, 0) ⟨rfl, rfl, rfl, rfl, rfl, rfl, trivial⟩ (ent_keep 6 [3, 4, 5, 0, 1, 2] rfl rfl) ⟨RelI.nil _ (by omega), Nat.le_refl _, Nat.zero_le _⟩ ?_
  rintro ⟨u, l, L, A, c, i⟩ ⟨hR, hli, hi⟩
  dsimp only at hR hli hi ⊢
  ((iterate 2 refine sw_seq ?_); refine sw_region ?_; (iterate 4 refine so_1 rfl ?_))
  refine so_call rfl rfl rfl (long_S (k := 6) h2 rfl) ?_
  rintro _ _ ⟨q, hq, rfl, rfl⟩
  cases q
  rotate_left
  · ((iterate 8 refine so_1 rfl ?_); refine so_nil ?_; refine sn_then ?_; refine sw_cond_f rfl ?_; refine sw_exit ?_; refine sn_then_exit ?_; refine sn_loop_exit ?_; refine sn_block_exit ?_; refine sn_then ?_; refine sw_seq ?_; refine sw_region ?_)
    refine so_callE rfl rfl rfl (awakeB_S) ?_
    (refine so_1 rfl ?_; refine so_nil ?_; refine sn_then ?_; refine sw_ret ?_)
    refine sn_ret rfl (.tmp rfl .nil) (ent_keep 7 [6] rfl rfl) ?_
    exact ⟨rfl, rfl⟩
  obtain ⟨q1, q2⟩ := hq rfl
  ((iterate 8 refine so_1 rfl ?_); refine so_nil ?_; refine sn_then ?_)
  by_cases hc : i < acts.length
  rotate_left
  · refine sw_know 57 (.bool false) rfl (by simp; omega) ?_
    (refine sw_cond_f rfl ?_; refine sw_exit ?_; refine sn_then_exit ?_; refine sn_loop_exit ?_; refine sn_block_exit ?_; refine sn_then ?_; refine sw_seq ?_; refine sw_region ?_)
    refine so_callE rfl rfl rfl (awakeB_S) ?_
    (refine so_1 rfl ?_; refine so_nil ?_; refine sn_then ?_; refine sw_ret ?_)
    refine sn_ret rfl (.tmp rfl .nil) (ent_keep 7 [6] rfl rfl) ?_
    exact ⟨rfl, rfl⟩
  refine sw_know 57 (.bool true) rfl (by simp; omega) ?_
  obtain ⟨hok, bk, off, rfl, hcell⟩ := f3 i hc
  have hb41 := q2 _ (List.getElem_mem hc)
  generalize acts[i] = a at *
  have hid32 := hok.l32
  have hbyt := hok.bw
  (refine sw_cond_t rfl ?_; refine sw_skip ?_; refine sn_then ?_; refine sw_seq ?_; refine sw_block ?_; refine sw_seq ?_; refine sw_region ?_; (iterate 2 refine so_1 rfl ?_); refine so_2 rfl (by omega) ?_)
  refine so_rd rfl (fun w H => ex_loadN (cs := actC a) rfl rfl rfl (actC_len hid32) (fun j hj => by rw [mulz_eq, Int.toNat_natCast, Nat.add_assoc]; exact (H.is (k := 6) rfl).cell (hcell j _ (List.getElem?_eq_getElem hj)) |>.trans (List.getElem?_eq_getElem hj).symm)) rfl ?_
  skip
  refine so_new rfl rfl rfl rfl rfl fun g12 => ?_
  refine so_stW 0 rfl rfl rfl rfl rfl rfl rfl (actC_len hid32) (actC_one hok) (by rw [actC_len hid32]; rfl) ?_
  (refine so_1 rfl ?_; refine so_nil ?_; refine sn_then ?_; refine sw_seq ?_; refine sw_region ?_; refine so_1 rfl ?_)
  refine so_ld 0 rfl rfl rfl rfl rfl rfl (actC_v hid32) rfl ?_
  (refine so_1 rfl ?_)
  have hOf : ∀ {F : List SP}, (∀ w, Sat W F w → VL (Value.int .u8) w a.v a.b) → SC Try.prog n_entrepotref02_Of [a.v, .int .i64 width] W F (fun v F' => v = .tuple ⟨[idV (cutR (sumM a.b) width), .int .i64 (cutE width)]⟩ ∧ F' = F) := fun h => by
    have := refOf_S (w := width) (by omega) h
    rwa [sum_RM] at this
  refine so_callE rfl rfl rfl (hOf (is_vl hok.vl (k := 7) rfl)) ?_
  clear hOf
  have hown := idOk_cut a.b width
  generalize cutR (sumM a.b) width = own at *
  ((iterate 3 refine so_1 rfl ?_))
  refine so_new rfl rfl rfl rfl rfl fun g14 => ?_
  refine so_stW 0 rfl rfl rfl rfl rfl rfl rfl (by rw [u8s_len, hown.1]; rfl) (u8s_one _) (by simp [hown.1]) ?_
  (refine so_1 rfl ?_; refine so_nil ?_; refine sn_then ?_; refine sw_seq ?_; refine sw_region ?_; refine so_1 rfl ?_)
  refine so_ld 1 rfl rfl rfl rfl rfl rfl (actC_v hid32) rfl ?_
  skip
  refine so_call rfl rfl rfl (LentBytes_S (by omega) (is_vl hok.vl (k := 8) rfl)) ?_
  rintro _ _ ⟨A1, c1, rfl, rfl⟩
  refine so_1 rfl ?_
  refine so_nil (sn_then ?_)
  have hidA := idOk_of hid32 hbyt
  have hbb := hok.bb
  have hr' : room ≤ 67108864 := by omega
  clear h2 hcell hq q2
  refine sw_seq (sw_cutT (S := Int × List Kp × List RB × Option Addr × Nat) (fun _ => [(0, .int .i64 width), (1, .int .i64 room), (2, .slice (some ⟨bk, off, none⟩) acts.length c0), (7, .pointer (some ⟨gs, 0, none⟩)), (9, .pointer (some ⟨gr, 0, none⟩)), (11, .int .i64 (i : Int)), (12, .pointer (some ⟨g12, 0, none⟩)), (13, .bool true), (14, .pointer (some ⟨g14, 0, none⟩))])
    (fun s => pt g14 t_api_ID (u8s own) :: pt g12 t_entrepotlaw08_Act (actC a) :: stB gs gm width room s.1 s.2.1 (stR gr width room s.2.2.2.1 s.2.2.2.2 s.2.2.1.length s.2.2.1 [Is W]))
    (fun s => RelI width room s.1 s.2.1 s.2.2.1 ∧ s.2.1.length ≤ i + 1) ?_ fun cut => ?_)
  · rintro ⟨u1, l1, L1, A2, c2⟩ ⟨hR1, hl1⟩
    dsimp only at hR1 hl1 ⊢
    clear hR hli
    have hlen1 := hR1.len
    have hm1 : L1.length ≤ 100000 := by omega
    (refine sw_seq ?_; refine sw_region ?_; refine so_1 rfl ?_)
    refine so_call rfl rfl rfl ((IDs_S (fun e he => by rw [hR1.st.ids e he]; exact idOk_cut _ _) (by omega)).ent (ent_keep 5 [2, 3, 4, 0, 1] rfl rfl)) ?_
    rintro _ _ ⟨A3, c3, M, rfl, hM1, hM2, rfl⟩
    obtain rfl : M = L1.map (·.id) := hR1.sameIds hM1 hM2
    rw [List.length_map]
    refine so_ent (ent_keep 9 [1, 2, 3, 6, 7, 8, 0, 4, 5] rfl rfl) ?_
    (refine so_1 rfl ?_; refine so_nil ?_; refine sn_then ?_; (iterate 2 refine sw_seq ?_); refine sw_region ?_; (iterate 6 refine so_1 rfl ?_))
    refine so_ldA 8 rfl rfl rfl rfl rfl rfl (actC_id hid32) rfl ?_
    refine so_callE rfl rfl rfl (told_S hR1 hidA hm1) ?_
    ((iterate 5 refine so_1 rfl ?_))
    refine so_ldA 7 rfl rfl rfl rfl rfl rfl (segID hown.1) rfl ?_
    refine so_callE rfl rfl rfl (told_S hR1 hown hm1) ?_
    ((iterate 5 refine so_1 rfl ?_))
    refine so_call rfl rfl rfl ((refIDs_S hR1.i32 rfl hm1).ent (ent_keep 9 [3, 4, 5, 6, 0, 1, 2, 7, 8] rfl rfl)) ?_
    rintro _ _ ⟨A4, c4, rfl, rfl⟩
    have h32 : len32 (L1.map (·.id)) := fun x hx => by
      obtain ⟨e, he, rfl⟩ := List.mem_map.1 hx
      exact hR1.i32 e he
    refine so_callE rfl rfl rfl ((SameIDs_S h32 (List.length_map _) (by omega)).at (ent_keep 5 [4, 0, 1, 2, 3] rfl rfl) (ent_keep 5 [1, 2, 3, 4, 0] rfl rfl)) ?_
    refine so_ent (ent_keep 8 [5, 6, 7, 1, 2, 3, 4, 0] rfl rfl) ?_
    ((iterate 4 refine so_1 rfl ?_))
    refine so_callE rfl rfl rfl (Used_S) ?_
    (refine so_1 rfl ?_)
    refine so_callE rfl rfl rfl ((refUsed_S hR1.i32 rfl hm1 (by rw [hR1.sum]; have := hR1.st.ur; omega)).at (ent_keep 6 [3, 4, 5, 0, 1, 2] rfl rfl) (ent_keep 6 [3, 4, 5, 0, 1, 2] rfl rfl)) ?_
    rw [hR1.sum]
    ((iterate 3 refine so_1 rfl ?_))
    refine so_know 169 (.bool false) rfl (by simp) ?_
    (refine so_1 rfl ?_)
    refine so_callE rfl rfl rfl (Width_S) ?_
    ((iterate 4 refine so_1 rfl ?_))
    refine so_know 175 (.bool false) rfl (by simp) ?_
    (refine so_1 rfl ?_)
    refine so_callE rfl rfl rfl (Room_S) ?_
    ((iterate 3 refine so_1 rfl ?_); refine so_nil ?_; refine sn_then ?_)
    refine sw_know 180 (.bool false) rfl (by simp) ?_
    (refine sw_cond_f rfl ?_; refine sw_skip ?_; refine sn_then ?_; refine sw_region ?_; refine so_1 rfl ?_)
    refine so_call rfl rfl rfl ((OverIDs_S h32 (List.length_map _) (by omega)).ent (ent_keep 7 [6, 0, 1, 2, 3, 4, 5] rfl rfl)) ?_
    rintro _ _ ⟨M', rfl⟩
    (refine so_nil ?_; refine sn_block ?_; refine sn_then ?_; refine sw_region ?_; refine so_1 rfl ?_; refine so_2 rfl (by (unfold I64; omega)) ?_; refine so_1 rfl ?_; refine so_nil ?_)
    refine sn_round (u1, l1, L1, A2, c2, i + 1) ⟨rfl, rfl, rfl, rfl, rfl, rfl, trivial⟩ (ent_keep 10 [1, 2, 3, 4, 5, 6] rfl rfl) ⟨hR1, hl1, by dsimp only; omega⟩ (by dsimp only; omega)
  · refine sw_seq (sw_region ?_)
    refine so_1 rfl ?_
    refine so_l 2 rfl rfl rfl ?_
    refine so_nil (sn_then (sw_block ?_))
    refine sw_seq (sw_cutT (S := Bool) (fun q => [(0, .int .i64 width), (1, .int .i64 room), (2, .slice (some ⟨bk, off, none⟩) acts.length c0), (7, .pointer (some ⟨gs, 0, none⟩)), (9, .pointer (some ⟨gr, 0, none⟩)), (11, .int .i64 (i : Int)), (12, .pointer (some ⟨g12, 0, none⟩)), (13, .bool true), (14, .pointer (some ⟨g14, 0, none⟩)), (16, .slice A1 a.b.length c1), (75, .int .i64 a.kind), (76, .bool q)]) (fun _ => rL A1 c1 a.b :: pt g14 t_api_ID (u8s own) :: pt g12 t_entrepotlaw08_Act (actC a) :: stB gs gm width room u l (stR gr width room A c L.length L [Is W])) (fun _ => True) ?_ fun cut2 => ?_)
    rotate_left
    · (refine sw_seq ?_; refine sw_region ?_; (iterate 2 refine so_1 rfl ?_); refine so_nil ?_; refine sn_then ?_)
      by_cases k0 : a.kind = 0
      · refine sw_know 76 (.bool true) rfl (by simp [k0]) ?_
        exact sw_cond_t rfl (sw_skip (cut2 true _ _ trivial ⟨rfl, rfl, rfl, rfl, rfl, rfl, rfl, rfl, rfl, rfl, rfl, rfl, trivial⟩ (Ent.refl _)))
      · refine sw_know 76 (.bool false) rfl (by simp [k0]) ?_
        refine sw_cond_f rfl (sw_region ?_)
        refine so_1 rfl ?_
        refine so_1 rfl ?_
        refine so_nil (cut2 _ _ _ trivial ⟨rfl, rfl, rfl, rfl, rfl, rfl, rfl, rfl, rfl, rfl, rfl, rfl, trivial⟩ (Ent.refl _))
    have hm : L.length ≤ 100000 := by have := hR.len; omega
    rintro q _
    cases q
    · refine sw_cond_f rfl ?_
      (refine sw_seq ?_; refine sw_region ?_; (iterate 2 refine so_1 rfl ?_); refine so_nil ?_; refine sn_then ?_)
      by_cases k2 : a.kind = 2
      · refine sw_know 116 (.bool true) rfl (by simp [k2]) ?_
        refine sw_cond_t rfl ?_
        refine sw_draw flo [pt g14 t_api_ID (u8s own), Is W] (by decide +kernel) (ent_keep 9 [1] rfl rfl) ?_
        (refine sd_1 rfl (.inl rfl) ?_)
        refine sd_ldA 0 rfl rfl rfl rfl rfl rfl (segID hown.1) rfl rfl ?_
        refine sd_call rfl rfl rfl rfl ((dropBoth_S hR hr' hown).ent (ent_keep 6 [3, 4, 5, 0, 1, 2] rfl rfl)) ?_
        rintro _ _ ⟨rfl, u1, l1, rfl, hl1, hF, hT⟩
        refine ⟨ent_keep 9 [4] rfl rfl, ?_⟩
        (refine sd_1 rfl (.inl rfl) ?_)
        refine sd_ldA 0 rfl rfl rfl rfl rfl rfl (segID hown.1) rfl rfl ?_
        refine sd_call rfl rfl rfl rfl ((refDrop_S hR hown hm).ent (ent_keep 9 [6, 7, 8, 0, 1, 2, 3, 4, 5] rfl rfl)) ?_
        rintro _ _ ⟨rfl, A2, c2, L1, rfl, hF1, hT1⟩
        refine ⟨ent_keep 9 [7] rfl rfl, ?_⟩
        ((iterate 2 refine sd_1 rfl (.inl rfl) ?_))
        refine sd_know 13 (.bool true) rfl (congrArg Value.bool (by generalize isM own L = q; cases q <;> rfl)) ?_
        skip
        refine sd_nil (sn_block (cut (u1, l1, L1, A2, c2) _ _ ⟨?_, by dsimp only; omega⟩ ⟨rfl, rfl, rfl, rfl, rfl, rfl, rfl, rfl, rfl, trivial⟩ (ent_keep 9 [7, 8, 3, 4, 5, 0, 1, 2] rfl rfl)))
        dsimp only
        cases hM : isM own L with
        | false =>
          obtain ⟨rfl, rfl⟩ := hF hM
          obtain rfl := hF1 hM
          exact hR
        | true =>
          obtain rfl := hT1 hM
          exact hT hM
      · refine sw_know 116 (.bool false) rfl (by simp [k2]) ?_
        (refine sw_cond_f rfl ?_; refine sw_seq ?_; refine sw_region ?_; (iterate 2 refine so_1 rfl ?_); refine so_nil ?_; refine sn_then ?_)
        by_cases k3 : a.kind = 3
        · refine sw_know 125 (.bool true) rfl (by simp [k3]) ?_
          refine sw_cond_t rfl ?_
          refine sw_draw flo [pt g12 t_entrepotlaw08_Act (actC a), Is W] (by decide +kernel) (ent_keep 9 [2] rfl rfl) ?_
          ((iterate 2 refine sd_1 rfl (.inl rfl) ?_))
          refine sd_ldA 0 rfl rfl rfl rfl rfl rfl (actC_id hid32) rfl rfl ?_
          refine sd_call rfl rfl rfl rfl ((dropBoth_S hR hr' hidA).ent (ent_keep 6 [3, 4, 5, 0, 1, 2] rfl rfl)) ?_
          rintro _ _ ⟨rfl, u1, l1, rfl, hl1, hF, hT⟩
          refine ⟨ent_keep 9 [5] rfl rfl, ?_⟩
          ((iterate 2 refine sd_1 rfl (.inl rfl) ?_))
          refine sd_ldA 0 rfl rfl rfl rfl rfl rfl (actC_id hid32) rfl rfl ?_
          refine sd_call rfl rfl rfl rfl ((refDrop_S hR hidA hm).ent (ent_keep 9 [6, 7, 8, 0, 1, 2, 3, 4, 5] rfl rfl)) ?_
          rintro _ _ ⟨rfl, A2, c2, L1, rfl, hF1, hT1⟩
          refine ⟨ent_keep 9 [8] rfl rfl, ?_⟩
          ((iterate 2 refine sd_1 rfl (.inl rfl) ?_))
          refine sd_know 13 (.bool true) rfl (congrArg Value.bool (by generalize isM a.id L = q; cases q <;> rfl)) ?_
          skip
          refine sd_nil (sn_block (cut (u1, l1, L1, A2, c2) _ _ ⟨?_, by dsimp only; omega⟩ ⟨rfl, rfl, rfl, rfl, rfl, rfl, rfl, rfl, rfl, trivial⟩ (ent_keep 9 [7, 8, 3, 4, 5, 0, 1, 2] rfl rfl)))
          dsimp only
          cases hM : isM a.id L with
          | false =>
            obtain ⟨rfl, rfl⟩ := hF hM
            obtain rfl := hF1 hM
            exact hR
          | true =>
            obtain rfl := hT1 hM
            exact hT hM
        · refine sw_know 125 (.bool false) rfl (by simp [k3]) ?_
          refine sw_cond_f rfl (sw_skip (sn_block (cut (u, l, L, A, c) _ _ ⟨hR, by dsimp only; omega⟩ ⟨rfl, rfl, rfl, rfl, rfl, rfl, rfl, rfl, rfl, trivial⟩ (ent_keep 9 [1, 2, 3, 4, 5, 6, 7, 8] rfl rfl))))
    · refine sw_cond_t rfl ?_
      (refine sw_seq ?_; refine sw_region ?_; refine so_1 rfl ?_)
      refine so_ldA 2 rfl rfl rfl rfl rfl rfl (actC_id hid32) rfl ?_
      refine so_new rfl rfl rfl rfl rfl fun g17 => ?_
      refine so_stW 0 rfl rfl rfl rfl rfl rfl rfl (by rw [u8s_len, hid32]; rfl) (u8s_one _) (by simp [hid32]) ?_
      refine so_nil (sn_then (sw_seq (sw_cutT (S := List Int) (fun _ => [(0, .int .i64 width), (1, .int .i64 room), (2, .slice (some ⟨bk, off, none⟩) acts.length c0), (7, .pointer (some ⟨gs, 0, none⟩)), (9, .pointer (some ⟨gr, 0, none⟩)), (11, .int .i64 (i : Int)), (12, .pointer (some ⟨g12, 0, none⟩)), (13, .bool true), (14, .pointer (some ⟨g14, 0, none⟩)), (16, .slice A1 a.b.length c1), (17, .pointer (some ⟨g17, 0, none⟩))])
        (fun id => pt g17 t_api_ID (u8s id) :: rL A1 c1 a.b :: pt g14 t_api_ID (u8s own) :: pt g12 t_entrepotlaw08_Act (actC a) :: stB gs gm width room u l (stR gr width room A c L.length L [Is W])) (fun id => idOk id) ?_ fun cut3 => ?_)))
      rotate_left
      · (refine sw_seq ?_; refine sw_region ?_; refine so_1 rfl ?_; refine so_l 3 rfl rfl rfl ?_; refine so_1 rfl ?_; refine so_nil ?_; refine sn_then ?_)
        by_cases k1 : a.kind = 1
        · refine sw_know 83 (.bool true) rfl (by simp [k1]) ?_
          (refine sw_cond_t rfl ?_; refine sw_region ?_)
          refine so_ldA 2 rfl rfl rfl rfl rfl rfl (segID hown.1) rfl ?_
          refine so_stW 0 rfl rfl rfl rfl rfl rfl rfl (by rw [u8s_len, hown.1]; rfl) (u8s_one _) (by simp [hown.1, hid32]) ?_
          exact so_nil (cut3 own _ _ hown ⟨rfl, rfl, rfl, rfl, rfl, rfl, rfl, rfl, rfl, rfl, rfl, trivial⟩ (Ent.refl _))
        · refine sw_know 83 (.bool false) rfl (by simp [k1]) ?_
          exact sw_cond_f rfl (sw_skip (cut3 a.id _ _ hidA ⟨rfl, rfl, rfl, rfl, rfl, rfl, rfl, rfl, rfl, rfl, rfl, trivial⟩ (Ent.refl _)))
      intro id hid
      (refine sw_seq ?_; refine sw_region ?_; refine so_1 rfl ?_)
      refine so_ldA 0 rfl rfl rfl rfl rfl rfl (segID hid.1) rfl ?_
      (refine so_1 rfl ?_)
      refine so_call rfl rfl rfl ((putBoth_S hR hr' hid (rL_vl (k := 1) rfl) hbb hb41).ent (ent_keep 7 [4, 5, 6, 0, 1, 2, 3] rfl rfl)) ?_
      rintro _ _ ⟨rfl, u1, l1, rfl, hl1, hF, hT⟩
      ((iterate 5 refine so_1 rfl ?_); refine so_nil ?_; refine sn_then ?_; refine sw_seq ?_; refine sw_region ?_; refine so_1 rfl ?_)
      refine so_ldA 3 rfl rfl rfl rfl rfl rfl (segID hid.1) rfl ?_
      (refine so_1 rfl ?_)
      refine so_ld 6 rfl rfl rfl rfl rfl rfl (actC_v hid32) rfl ?_
      refine so_call rfl rfl rfl ((refPutB_S hR hr' hid (is_vl hok.vl (k := 7) rfl) hbb hb41 hm).ent (ent_keep 10 [7, 8, 9, 0, 1, 2, 3, 4, 5, 6] rfl rfl)) ?_
      rintro _ _ ⟨rfl, A2, c2, L1, rfl, hF1, hT1⟩
      ((iterate 5 refine so_1 rfl ?_); refine so_nil ?_; refine sn_then ?_; refine sw_seq ?_; refine sw_region ?_; (iterate 4 refine so_1 rfl ?_))
      refine so_know 103 (.bool true) rfl (congrArg Value.bool (by generalize refIs id a.b width room L = q; cases q <;> rfl)) ?_
      ((iterate 5 refine so_1 rfl ?_))
      refine so_know 108 (.bool true) rfl (by simp) ?_
      ((iterate 2 refine so_1 rfl ?_))
      refine so_ld 9 rfl rfl rfl rfl rfl rfl (actC_v hid32) rfl ?_
      refine so_callE rfl rfl rfl ((KeptBytes_S (by omega) (is_vl hok.vl (k := 9) rfl)).at (ent_keep 8 [7, 0, 1, 2, 3, 4, 5, 6] rfl rfl) (ent_keep 8 [1, 2, 3, 4, 5, 6, 7, 0] rfl rfl)) ?_
      ((iterate 2 refine so_1 rfl ?_); refine so_nil ?_; refine sn_then ?_; refine sw_region ?_; refine so_1 rfl ?_)
      refine so_ent ((ent_row_take (j := a.b.length) (by omega) 7 rfl rfl).trans (ent_rB (l := a.b) 7 rfl rfl (by simp [u8s]) rfl)) ?_
      refine so_call rfl rfl rfl ((OverBytes_S (by omega)).ent (ent_keep 8 [7, 0, 1, 2, 3, 4, 5, 6] rfl rfl)) ?_
      rintro _ _ ⟨l2, rfl⟩
      refine so_nil (sn_block (cut (u1, l1, L1, A2, c2) _ _ ⟨?_, by dsimp only; omega⟩ ⟨rfl, rfl, rfl, rfl, rfl, rfl, rfl, rfl, rfl, trivial⟩ (ent_keep 10 [8, 9, 4, 5, 6, 1, 2, 3] rfl rfl)))
      dsimp only
      cases hI : refIs id a.b width room L with
      | false =>
        obtain ⟨rfl, rfl⟩ := hF hI
        obtain rfl := hF1 hI
        exact hR
      | true =>
        obtain ⟨v2, hv2, rfl⟩ := hT1 hI
        exact hT hI v2 hv2
end Go.Proofs.Ytahimopjohdkjaa
