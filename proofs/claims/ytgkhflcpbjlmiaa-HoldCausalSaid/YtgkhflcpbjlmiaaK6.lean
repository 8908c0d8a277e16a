/- Queues, part twenty: what a queue holds, told without memory. Conditions: none. -/
import Derived.Test.YtgkhflcpbjlmiaaK5
import Derived.Test.YtgkhflcpbjlmiaaK4
import Derived.Test.YtgkhflcpbjlmiaaK3
namespace Go.Proofs.Ytgkhflcpbjlmiaa
open Go.Eng Go.RowKit Go.WideMaps Go.Heap

abbrev dotW (w : Wn) : Int × Int := (w.e.r, w.e.n)
theorem leG_anti {a c : Wn} (h1 : leG a c) (h2 : leG c a) : dotW a = dotW c := by
  unfold leG at h1 h2
  rw [lt_Wn, ltE, lessL, decide_eq_true_eq] at h1 h2
  have h3 : a.e.r = c.e.r := by omega
  have h4 : a.e.n = c.e.n := by omega
  rw [dotW, dotW, h3, h4]
theorem leG_tot (a c : Wn) : leG a c ∨ leG c a := by
  by_cases h : leG a c
  · exact .inl h
  · right
    unfold leG at h ⊢
    exact fun hc => h (HLaw.asym _ _ hc)
theorem dot_uniq {L : List Wn} (hnd : (L.map dotW).Nodup) {a c : Wn} (ha : a ∈ L) (hc : c ∈ L) (h : dotW a = dotW c) : a = c := by
  induction L with
  | nil => simp at ha
  | cons x L ih =>
    simp only [List.map_cons, List.nodup_cons] at hnd
    rcases List.mem_cons.1 ha with rfl | ha' <;> rcases List.mem_cons.1 hc with rfl | hc'
    · rfl
    · exact absurd (h ▸ List.mem_map.2 ⟨c, hc', rfl⟩) hnd.1
    · exact absurd (h ▸ List.mem_map.2 ⟨a, ha', rfl⟩) hnd.1
    · exact ih hnd.2 ha' hc'
theorem sorted_uniq {O L : List Wn} (h1 : O.Pairwise leG) (h2 : L.Pairwise leG) (hp : O.Perm L) (hnd : (L.map dotW).Nodup) : O = L :=
  List.Perm.eq_of_pairwise (fun _ _ ha hc h3 h4 => dot_uniq hnd (hp.subset ha) hc (leG_anti h3 h4)) h1 h2 hp
def findW (d : Int × Int) (L : List Wn) : Option Wn := L.find? fun w => decide (dotW w = d)
theorem findW_some {d : Int × Int} {L : List Wn} {x : Wn} (h : findW d L = some x) : x ∈ L ∧ dotW x = d :=
  ⟨List.mem_of_find?_eq_some h, by simpa using List.find?_some h⟩
theorem findW_none {d : Int × Int} {L : List Wn} (h : findW d L = none) : ∀ x ∈ L, dotW x ≠ d := by
  intro x hx
  have := List.find?_eq_none.1 h x hx
  simpa using this
theorem findW_of {d : Int × Int} {L : List Wn} {x : Wn} (hnd : (L.map dotW).Nodup) (hx : x ∈ L) (hd : dotW x = d) : findW d L = some x := by
  cases h : findW d L with
  | none => exact absurd hd (findW_none h x hx)
  | some y => rw [dot_uniq hnd (findW_some h).1 hx ((findW_some h).2.trans hd.symm)]
theorem findW_none_of {d : Int × Int} {L : List Wn} (h : ∀ x ∈ L, dotW x ≠ d) : findW d L = none := by
  cases hf : findW d L with
  | none => rfl
  | some y => exact absurd (findW_some hf).2 (h y (findW_some hf).1)
/-- One more, in its place. -/
def insL (x : Wn) : List Wn → List Wn
  | [] => [x]
  | y :: l => if HOrd.lt y x = true then y :: insL x l else x :: y :: l
theorem insL_perm (x : Wn) (l : List Wn) : (insL x l).Perm (x :: l) := by
  induction l with
  | nil => exact .refl _
  | cons y l ih =>
    simp only [insL]
    split
    · exact (List.Perm.cons y ih).trans (.swap _ _ _)
    · exact .refl _
theorem insL_sorted {x : Wn} {l : List Wn} (h : l.Pairwise leG) : (insL x l).Pairwise leG := by
  induction l with
  | nil => exact List.pairwise_singleton _ _
  | cons y l ih =>
    simp only [insL]
    split
    · rename_i hlt
      refine List.pairwise_cons.2 ⟨fun z hz => ?_, ih (List.pairwise_cons.1 h).2⟩
      rcases List.mem_cons.1 ((insL_perm x l).subset hz) with rfl | hz
      · exact leG_of hlt
      · exact (List.pairwise_cons.1 h).1 z hz
    · rename_i hlt
      refine List.pairwise_cons.2 ⟨fun z hz => ?_, h⟩
      rcases List.mem_cons.1 hz with rfl | hz
      · exact hlt
      · exact leG_trans hlt ((List.pairwise_cons.1 h).1 z hz)
def setS (d : Int × Int) (s : Int) (w : Wn) : Wn := if dotW w = d then ⟨w.g, w.e, s⟩ else w
theorem setS_e (d : Int × Int) (s : Int) (w : Wn) : (setS d s w).e = w.e := by unfold setS; split <;> rfl
theorem setS_g (d : Int × Int) (s : Int) (w : Wn) : (setS d s w).g = w.g := by unfold setS; split <;> rfl
theorem setS_lt (d : Int × Int) (s : Int) (a c : Wn) : HOrd.lt (setS d s a) (setS d s c) = HOrd.lt a c := by rw [lt_Wn, lt_Wn, setS_e, setS_e]
theorem setS_nW (d : Int × Int) (s : Int) (w : Wn) : nW (setS d s w) = setS d s (nW w) := by
  unfold setS
  by_cases h : dotW w = d
  · rw [if_pos h, if_pos (show dotW (nW w) = d from h)]; rfl
  · rw [if_neg h, if_neg (show dotW (nW w) ≠ d from h)]
theorem pairwise_setS {L : List Wn} {d : Int × Int} {s : Int} (h : L.Pairwise leG) : (L.map (setS d s)).Pairwise leG := by
  rw [List.pairwise_map]
  refine h.imp fun {a c} hac => ?_
  unfold leG at hac ⊢; rw [setS_lt]; exact hac
theorem dots_setS (L : List Wn) (d : Int × Int) (s : Int) : (L.map (setS d s)).map dotW = L.map dotW := by
  rw [List.map_map]
  refine List.map_congr_left fun w _ => ?_
  show ((setS d s w).e.r, (setS d s w).e.n) = _
  rw [setS_e]
def delW (d : Int × Int) (L : List Wn) : List Wn := L.filter fun w => decide (dotW w ≠ d)
theorem delW_mem {d : Int × Int} {L : List Wn} {w : Wn} : w ∈ delW d L ↔ w ∈ L ∧ dotW w ≠ d := by simp [delW]
theorem delW_none {d : Int × Int} {L : List Wn} (h : ∀ x ∈ L, dotW x ≠ d) : delW d L = L := by
  unfold delW; rw [List.filter_eq_self]; intro a ha; simpa using h a ha
theorem delW_split {d : Int × Int} {a : List Wn} {x : Wn} {c : List Wn} (hx : dotW x = d) (hnd : ((a ++ x :: c).map dotW).Nodup) : delW d (a ++ x :: c) = a ++ c := by
  have h1 : ∀ y ∈ a ++ c, dotW y ≠ d := by
    intro y hy hc
    have hp : (a ++ x :: c).Perm (x :: (a ++ c)) := List.perm_middle
    have := (hp.map dotW).nodup_iff.1 hnd
    simp only [List.map_cons, List.nodup_cons] at this
    exact this.1 (List.mem_map.2 ⟨y, hy, hc.trans hx.symm⟩)
  have e1 := delW_none (fun y hy => h1 y (List.mem_append_left c hy))
  have e2 := delW_none (fun y hy => h1 y (List.mem_append_right a hy))
  unfold delW at *
  rw [List.filter_append, e1, List.filter_cons_of_neg (by simp [hx]), e2]
/-- A queue of n regions. -/
structure QI (n : Nat) (V : List Int) (L : List Wn) : Prop where
  n1 : 1 ≤ n
  n2 : n ≤ 16
  len : V.length = n
  num : numOk V
  nd : (L.map dotW).Nodup
  fit : ∀ w ∈ L, fitsB n w.e w.src = true
  new : ∀ w ∈ L, hasL V w.e.r w.e.n = false
  ew : ∀ w ∈ L, EW w.e
  rf : ∀ w ∈ L, w.e.refs.length ≤ 1000000
  many : L.length ≤ 100000
  nrm : ∀ w ∈ L, nW w = w
  so : L.Pairwise leG
theorem QI.i32 {n : Nat} {V : List Int} {L : List Wn} (hq : QI n V L) : ∀ w ∈ L, w.e.id.length = 32 := fun w hw => (hq.ew w hw).l32
structure HI (L R H : List Wn) : Prop where
  perm : R.Perm H
  hp : hpG R.length R
  pm : L.Perm (H.map nW)
section
variable {n : Nat} {V : List Int} {L R H : List Wn} (hq : QI n V L) (hi : HI L R H)
include hi in
theorem HI.mem {w : Wn} (h : w ∈ H) : nW w ∈ L := hi.pm.symm.subset (List.mem_map.2 ⟨w, h, rfl⟩)
include hi in
theorem HI.sub : ∀ e ∈ R, e ∈ H := fun _ h => hi.perm.subset h
include hq hi in
theorem HI.h32 : ∀ e ∈ H, e.e.id.length = 32 := fun e h => hq.i32 (nW e) (hi.mem h)
include hq hi in
theorem HI.nd : (H.map dotW).Nodup := by
  have h1 := hi.pm.map dotW
  rw [List.map_map] at h1
  exact h1.nodup_iff.1 hq.nd
include hi in
theorem HI.len : R.length = L.length ∧ H.length = L.length := by
  have h1 := hi.perm.length_eq
  have h2 := hi.pm.length_eq
  rw [List.length_map] at h2
  omega
theorem getM_wM {d : Int × Int} : (∀ w ∈ H, dotW w ≠ d) → getM d (wM H) = none := by
  induction H with
  | nil => intro _; rfl
  | cons e l ih =>
    intro h
    simp only [wM, getM]
    rw [if_neg (h e List.mem_cons_self)]
    exact ih fun w hw => h w (List.mem_cons_of_mem _ hw)
theorem getM_wM_some {d : Int × Int} : (∃ w ∈ H, dotW w = d) → ∃ w ∈ H, dotW w = d ∧ getM d (wM H) = some (.pointer (some ⟨w.g, 0, none⟩)) := by
  induction H with
  | nil => rintro ⟨w, hw, _⟩; simp at hw
  | cons e l ih =>
    rintro ⟨w, hw, hd⟩
    simp only [wM, getM]
    by_cases he : dotW e = d
    · exact ⟨e, List.mem_cons_self, he, if_pos he⟩
    · rw [if_neg he]
      have : ∃ w ∈ l, dotW w = d := by
        rcases List.mem_cons.1 hw with rfl | hw
        · exact absurd hd he
        · exact ⟨w, hw, hd⟩
      obtain ⟨w', h1, h2, h3⟩ := ih this
      exact ⟨w', List.mem_cons_of_mem _ h1, h2, h3⟩
include hi in
theorem HI.miss {d : Int × Int} (h : findW d L = none) : getM d (wM H) = none :=
  getM_wM fun w hw => findW_none h (nW w) (hi.mem hw)
include hq hi in
theorem HI.hit {d : Int × Int} {x : Wn} (h : findW d L = some x) : ∃ w ∈ H, dotW w = d ∧ nW w = x ∧ getM d (wM H) = some (.pointer (some ⟨w.g, 0, none⟩)) := by
  obtain ⟨h1, h2⟩ := findW_some h
  obtain ⟨w0, hw0, he0⟩ := List.mem_map.1 (hi.pm.subset h1)
  obtain ⟨w, hw, hd, hg⟩ := getM_wM_some (H := H) (d := d) ⟨w0, hw0, by rw [← h2, ← he0]; rfl⟩
  exact ⟨w, hw, hd, dot_uniq hq.nd (hi.mem hw) h1 (show dotW w = _ by rw [hd, h2]), hg⟩
include hq in
theorem QI.dotOk {w : Wn} (h : w ∈ L) : Go.Proofs.Ytgkhflcpbjlmiaa.dotOk (dotW w) := by
  have := of_decide_eq_true (hq.fit w h)
  have h2 := hq.n2
  exact ⟨(i64wf _).2 (by show I64 w.e.r; unfold I64; omega), (i64wf _).2 (by show I64 w.e.n; unfold I64; omega)⟩
end
end Go.Proofs.Ytgkhflcpbjlmiaa
/- Queues, part twenty-one: Add. Conditions: an event of 32 bytes of digest, not too many. -/
namespace Go.Proofs.Ytgkhflcpbjlmiaa
open Go.Eng Go.RowKit Go.WideMaps Go.Heap

/-- A queue, its innards hidden. -/
def que (gq n : Nat) (V : List Int) (L : List Wn) : SP :=
  exP (S := Nat × Value × Value × List Wn × List Wn) (fun s => QI n V L ∧ HI L s.2.2.2.1 s.2.2.2.2) fun s => stH gq s.1 s.2.1 V s.2.2.1 s.2.2.2.1 s.2.2.2.2 []
def addB (V : List Int) (L : List Wn) (e : Ev) (s : Int) : Bool := fitsB V.length e s && !hasL V e.r e.n && (findW (e.r, e.n) L).isNone && decide (L.length < 64)
def addE (V : List Int) (L : List Wn) (e : Ev) (s : Int) : Int := if fitsB V.length e s = false then 2 else if hasL V e.r e.n = true ∨ (findW (e.r, e.n) L).isSome then 0 else if 64 ≤ L.length then 10 else 0
def addL (V : List Int) (L : List Wn) (e : Ev) (s : Int) : List Wn :=
  if fitsB V.length e s = false ∨ hasL V e.r e.n = true then L else if (findW (e.r, e.n) L).isSome then L.map (setS (e.r, e.n) s) else if 64 ≤ L.length then L else insL (nW ⟨0, e, s⟩) L
section
variable {n : Nat} {V : List Int} {L R H : List Wn}
theorem hpG_map {f : Wn → Wn} (hf : ∀ a c, HOrd.lt (f a) (f c) = HOrd.lt a c) (h : hpG R.length R) : hpG (R.map f).length (R.map f) := by
  intro i h0 hi
  rw [List.length_map] at hi
  have := h i h0 hi
  have hx : ∀ k, k < R.length → (R.map f).getD k HOrd.d = f (R.getD k HOrd.d) := fun k hk => by
    rw [List.getD_eq_getElem?_getD, List.getD_eq_getElem?_getD, List.getElem?_map, List.getElem?_eq_getElem hk]; rfl
  unfold leG atG at this ⊢
  rw [hx _ hi, hx _ (by omega), hf]; exact this
theorem QI.setS (hq : QI n V L) {e : Ev} {s : Int} (hf : fitsB n e s = true) : QI n V (L.map (setS (e.r, e.n) s)) where
  n1 := hq.n1
  n2 := hq.n2
  len := hq.len
  num := hq.num
  nd := by rw [dots_setS]; exact hq.nd
  fit := fun w hw => by
    obtain ⟨x, hx, rfl⟩ := List.mem_map.1 hw
    have h1 := hq.fit x hx
    unfold Ytgkhflcpbjlmiaa.setS
    split
    · have h2 := of_decide_eq_true h1
      have h3 := of_decide_eq_true hf
      exact decide_eq_true ⟨h3.1, h3.2.1, h2.2.2⟩
    · exact h1
  new := fun w hw => by
    obtain ⟨x, hx, rfl⟩ := List.mem_map.1 hw
    rw [setS_e]; exact hq.new x hx
  ew := fun w hw => by
    obtain ⟨x, hx, rfl⟩ := List.mem_map.1 hw
    rw [setS_e]; exact hq.ew x hx
  rf := fun w hw => by
    obtain ⟨x, hx, rfl⟩ := List.mem_map.1 hw
    rw [setS_e]; exact hq.rf x hx
  many := by rw [List.length_map]; exact hq.many
  nrm := fun w hw => by
    obtain ⟨x, hx, rfl⟩ := List.mem_map.1 hw
    rw [setS_nW, hq.nrm x hx]
  so := pairwise_setS hq.so
theorem HI.setS (hi : HI L R H) (d : Int × Int) (s : Int) : HI (L.map (setS d s)) (R.map (setS d s)) (H.map (setS d s)) where
  perm := hi.perm.map _
  hp := hpG_map (setS_lt d s) hi.hp
  pm := by
    rw [List.map_map]
    have h1 := hi.pm.map (Ytgkhflcpbjlmiaa.setS d s)
    rw [List.map_map] at h1
    refine h1.trans (.of_eq (List.map_congr_left fun w _ => ?_))
    exact (setS_nW d s w).symm
theorem QI.ins (hq : QI n V L) {e : Ev} {s : Int} (hf : fitsB n e s = true) (hh : hasL V e.r e.n = false) (hn : findW (e.r, e.n) L = none) (hew : EW e) (hl : e.refs.length ≤ 1000000) (hm : L.length < 64) : QI n V (insL (nW ⟨0, e, s⟩) L) := by
  have hp := insL_perm (nW ⟨0, e, s⟩) L
  have hall : ∀ {p : Wn → Prop}, (∀ w ∈ L, p w) → p (nW ⟨0, e, s⟩) → ∀ w ∈ insL (nW ⟨0, e, s⟩) L, p w := fun h1 h2 w hw => by
    rcases List.mem_cons.1 (hp.subset hw) with rfl | h
    · exact h2
    · exact h1 w h
  exact {
    n1 := hq.n1
    n2 := hq.n2
    len := hq.len
    num := hq.num
    nd := (hp.map dotW).nodup_iff.2 (by
      rw [List.map_cons, List.nodup_cons]
      refine ⟨fun hc => ?_, hq.nd⟩
      obtain ⟨x, hx, he⟩ := List.mem_map.1 hc
      exact findW_none hn x hx he)
    fit := hall hq.fit hf
    new := hall hq.new hh
    ew := hall hq.ew (hew.own nS nS)
    rf := hall hq.rf hl
    many := by rw [hp.length_eq, List.length_cons]; omega
    nrm := hall hq.nrm rfl
    so := insL_sorted hq.so }
theorem wM_setS (d : Int × Int) (s : Int) : wM (H.map (setS d s)) = wM H := by
  induction H with
  | nil => rfl
  | cons e l ih => simp only [List.map_cons, wM, ih, setS_e, setS_g]
theorem ptrs_setS (d : Int × Int) (s : Int) : ptrs (R.map (setS d s)) = ptrs R := by
  rw [ptrs, List.map_map]
  refine List.map_congr_left fun w _ => ?_
  simp [setS_g]
theorem map_setS_off {d : Int × Int} {s : Int} (h : ∀ w ∈ H, dotW w ≠ d) : H.map (setS d s) = H := by
  have : H.map (setS d s) = H.map id := List.map_congr_left fun w hw => if_neg (h w hw)
  rw [this, List.map_id]
end
section
variable {b : World} {F : List SP} {gq n : Nat} {V : List Int} {L : List Wn} {e : Ev} {s : Int}
set_option maxRecDepth 20000 in
set_option maxHeartbeats 4000000 in
theorem Add_S (he : ∀ w, Sat b F w → VL (Value.int .i64) w e.dv e.deps) (hr : ∀ w, Sat b F w → SL w 32 e.rv e.refs.length (idsC e.refs)) (hd : e.deps.length ≤ 1000000) (hl : e.refs.length ≤ 1000000) (hew : EW e) :
    SC Try.prog n_p_hold_Queue_Add [.pointer (some ⟨gq, 0, none⟩), evV e, .int .i64 s] b (que gq n V L :: F) (fun v F' => v = .tuple ⟨[.bool (addB V L e s), .int .i64 (addE V L e s)]⟩ ∧ F' = que gq n V (addL V L e s) :: F) := by
  refine SC.opn ?_
  rintro ⟨gm, v, h, R, H⟩ ⟨hq, hi⟩
  dsimp only at hi
  show SC _ _ _ _ (stH gq gm v V h R H F) _
  refine SC.out (R := fun u F' => u = .tuple ⟨[.bool (addB V L e s), .int .i64 (addE V L e s)]⟩ ∧ ∃ h' R' H', F' = stH gq gm v V h' R' H' F ∧ QI n V (addL V L e s) ∧ HI (addL V L e s) R' H') ?_ (by
    rintro u _ ⟨h1, h', R', H', rfl, hq', hi'⟩
    exact ⟨_, ent_pack (G := fun s => stH gq s.1 s.2.1 V s.2.2.1 s.2.2.2.1 s.2.2.2.2 []) (gm, v, h', R', H') ⟨hq', hi'⟩, h1, rfl⟩)
  have hlen := hi.len
  have hmany := hq.many
  have hVl := hq.len
  have h32 := hew.l32
  refine enterS F_p_hold_Queue_Add rfl rfl rfl ?_
  (refine sw_seq ?_; refine sw_region ?_)
  refine so_box rfl rfl rfl rfl rfl fun g4 => ?_
  ((iterate 2 refine so_1 rfl ?_); refine so_nil ?_; refine sn_then ?_; refine sw_seq ?_; refine sw_block ?_; refine sw_seq ?_; refine sw_region ?_; refine so_1 rfl ?_)
  refine so_callE rfl rfl rfl ((none_H (F := pt g4 t_api_Event (evC e) :: F)).at (ent_keep 6 [1, 2, 3, 4, 5, 0] rfl rfl) (ent_keep 6 [5, 0, 1, 2, 3, 4] rfl rfl)) ?_
  (refine so_1 rfl ?_; refine so_nil ?_; refine sn_then ?_; refine sw_cond_f rfl ?_; refine sw_seq ?_; refine sw_region ?_; refine so_1 rfl ?_)
  refine so_ldA 0 rfl rfl rfl rfl rfl rfl (segO_all (by rw [evC_len h32]; rfl)) rfl ?_
  (refine so_1 rfl ?_)
  refine so_callE rfl rfl rfl ((fits_S (F := pt g4 t_api_Event (evC e) :: F) (up he (ent_keep 6 [] rfl rfl)) hd).at (ent_keep 6 [1, 2, 3, 4, 5, 0] rfl rfl) (ent_keep 6 [5, 0, 1, 2, 3, 4] rfl rfl)) ?_
  by_cases hf : fitsB V.length e s = true
  rotate_left
  · have hf' : fitsB V.length e s = false := by simpa using hf
    refine so_know 17 (.bool false) rfl (congrArg Value.bool hf') ?_
    ((iterate 2 refine so_1 rfl ?_); refine so_nil ?_; refine sn_then ?_; refine sw_cond_t rfl ?_; refine sw_seq ?_; refine sw_region ?_; (iterate 2 refine so_1 rfl ?_); refine so_nil ?_; refine sn_then ?_; refine sw_ret ?_; refine sn_block_ret ?_; refine sn_then_ret ?_)
    refine sn_ret rfl (.tmp rfl (.tmp rfl .nil)) (ent_keep 6 [1, 2, 3, 4, 5] rfl rfl) ?_
    refine ⟨?_, h, R, H, rfl, ?_⟩
    · rw [addB, addE, hf']; rfl
    · rw [addL, if_pos (.inl hf')]; exact ⟨hq, hi⟩
  refine so_know 17 (.bool true) rfl (congrArg Value.bool hf) ?_
  ((iterate 2 refine so_1 rfl ?_); refine so_nil ?_; refine sn_then ?_; refine sw_cond_f rfl ?_; refine sw_seq ?_)
  refine sw_draw flo _ (by decide +kernel) (Ent.refl _) ?_
  ((iterate 3 refine sd_1 rfl (.inl rfl) ?_); refine sd_l 1 rfl rfl rfl rfl ?_; refine sd_1 rfl (.inl rfl) ?_; refine sd_l 0 rfl rfl rfl rfl ?_)
  refine sd_callE rfl rfl rfl rfl (SC.ofExt fun w H => Has_spec_vector_Has (vlZ (k := 2) rfl w H)) (Ent.refl _) ?_
  (refine sd_1 rfl (.inl rfl) ?_)
  refine sd_nil ?_
  cases hh : hasL V e.r e.n with
  | true =>
    (refine sn_then ?_; refine sw_cond_t rfl ?_; refine sw_seq ?_; refine sw_region ?_; (iterate 2 refine so_1 rfl ?_); refine so_nil ?_; refine sn_then ?_; refine sw_ret ?_; refine sn_block_ret ?_; refine sn_then_ret ?_)
    refine sn_ret rfl (.tmp rfl (.tmp rfl .nil)) (ent_keep 6 [1, 2, 3, 4, 5] rfl rfl) ?_
    refine ⟨?_, h, R, H, rfl, ?_⟩
    · rw [addB, addE, hf, hh]; rfl
    · rw [addL, if_pos (.inr hh)]; exact ⟨hq, hi⟩
  | false =>
  have hfn : fitsB n e s = true := hVl ▸ hf
  have hdok : dotOk (e.r, e.n) := by
    have h1 := of_decide_eq_true hf
    have h2 := hq.n2
    exact ⟨(i64wf _).2 (by show I64 e.r; unfold I64; omega), (i64wf _).2 (by show I64 e.n; unfold I64; omega)⟩
  (refine sn_then ?_; refine sw_cond_f rfl ?_; refine sw_skip ?_; refine sn_block ?_; refine sn_then ?_; (iterate 2 refine sw_seq ?_))
  refine sw_draw flo _ (by decide +kernel) (Ent.refl _) ?_
  ((iterate 3 refine sd_1 rfl (.inl rfl) ?_); refine sd_l 1 rfl rfl rfl rfl ?_; refine sd_1 rfl (.inl rfl) ?_; refine sd_l 0 rfl rfl rfl rfl ?_)
  cases hfw : findW (e.r, e.n) L with
  | some x =>
    obtain ⟨w, hw, hwd, hwx, hwg⟩ := hi.hit hq hfw
    refine sd_look1 4 dotMK hdok hwg rfl rfl rfl rfl rfl rfl rfl rfl rfl ?_
    ((iterate 5 refine sd_1 rfl (.inl rfl) ?_))
    refine sd_nil ?_
    (refine sn_then ?_; refine sw_seq ?_; refine sw_region ?_; refine so_1 rfl ?_; refine so_nil ?_; refine sn_then ?_; refine sw_cond_t rfl ?_; refine sw_seq ?_; refine sw_region ?_; (iterate 4 refine so_1 rfl ?_))
    obtain ⟨l1, l2, hH⟩ := List.append_of_mem hw
    have hnd := hi.nd hq
    have hw32 := hi.h32 hq w hw
    refine so_ent (ent_keep 6 [5, 0, 1, 2, 3, 4] rfl rfl) ?_
    refine so_ent (ent_out (A := wF H) (B := wP w) (C := wF (l1 ++ l2)) (by rw [hH]; exact wF_at)) ?_
    refine so_st 0 rfl rfl rfl rfl rfl rfl rfl rfl (wsC_stsrc hw32) rfl ?_
    have hH' : H.map (setS (e.r, e.n) s) = l1 ++ (⟨w.g, w.e, s⟩ : Wn) :: l2 := by
      rw [hH]
      rw [hH] at hnd
      have hp : (l1 ++ w :: l2).Perm (w :: (l1 ++ l2)) := List.perm_middle
      have hnd' := (hp.map dotW).nodup_iff.1 hnd
      simp only [List.map_cons, List.nodup_cons] at hnd'
      have h1 : ∀ y ∈ l1 ++ l2, dotW y ≠ (e.r, e.n) := fun y hy hc => hnd'.1 (List.mem_map.2 ⟨y, hy, hc.trans hwd.symm⟩)
      rw [List.map_append, List.map_cons, map_setS_off fun y hy => h1 y (List.mem_append_left _ hy), map_setS_off fun y hy => h1 y (List.mem_append_right _ hy)]
      congr 2
      exact if_pos hwd
    refine so_ent (ent_in (A := wF (H.map (setS (e.r, e.n) s))) (B := wP ⟨w.g, w.e, s⟩) (C := wF (l1 ++ l2)) (by rw [hH']; exact wF_at)) ?_
    (refine so_nil ?_; refine sn_then ?_; refine sw_seq ?_; refine sw_region ?_; (iterate 2 refine so_1 rfl ?_); refine so_nil ?_; refine sn_then ?_; refine sw_ret ?_; refine sn_then_ret ?_)
    refine sn_ret rfl (.tmp rfl (.tmp rfl .nil)) (ent_keep 6 [2, 3, 4, 5, 0] rfl rfl) ?_
    refine ⟨?_, h, R.map (setS (e.r, e.n) s), H.map (setS (e.r, e.n) s), ?_, ?_, ?_⟩
    · rw [addB, addE, hf, hh, hfw]; rfl
    · simp only [stH, rP, mpH, wM_setS, ptrs_setS, List.length_map]
    · rw [addL, hfw, if_neg (by simp [hf, hh])]; exact hq.setS hfn
    · rw [addL, hfw, if_neg (by simp [hf, hh])]; exact hi.setS _ _
  | none =>
    refine sd_look0 4 dotMK hdok (hi.miss hfw) rfl rfl rfl rfl rfl rfl rfl rfl rfl ?_
    ((iterate 5 refine sd_1 rfl (.inl rfl) ?_))
    refine sd_nil (sn_then (sw_seq ?_))
    refine sw_fact (fun w H => (H.oat (k := 3) rfl).form) ?_
    rintro ⟨A1, c1, rfl, _, _, _⟩
    (refine sw_region ?_; refine so_1 rfl ?_; refine so_nil ?_; refine sn_then ?_; refine sw_cond_f rfl ?_; refine sw_skip ?_; refine sn_then ?_; (iterate 2 refine sw_seq ?_); refine sw_region ?_; (iterate 3 refine so_1 rfl ?_); refine so_l 1 rfl rfl rfl ?_; (iterate 2 refine so_1 rfl ?_); refine so_nil ?_; refine sn_then ?_)
    by_cases hm : 64 ≤ L.length
    · refine sw_know 47 (.bool true) rfl (congrArg Value.bool (decide_eq_true (by omega))) ?_
      (refine sw_cond_t rfl ?_; refine sw_seq ?_; refine sw_region ?_; (iterate 2 refine so_1 rfl ?_); refine so_nil ?_; refine sn_then ?_; refine sw_ret ?_; refine sn_then_ret ?_)
      refine sn_ret rfl (.tmp rfl (.tmp rfl .nil)) (ent_keep 6 [1, 2, 3, 4, 5] rfl rfl) ?_
      refine ⟨?_, .slice A1 R.length c1, R, H, rfl, ?_⟩
      · have hm' : ¬ L.length < 64 := by omega
        rw [addB, addE, hf, hh, hfw]; simp [hm, hm', tupl]
      · rw [addL, hfw, if_neg (by simp [hf, hh]), if_neg (by simp), if_pos hm]; exact ⟨hq, hi⟩
    · refine sw_know 47 (.bool false) rfl (congrArg Value.bool (decide_eq_false (by omega))) ?_
      (refine sw_cond_f rfl ?_; refine sw_skip ?_; refine sn_then ?_; refine sw_seq ?_; refine sw_region ?_; refine so_1 rfl ?_)
      refine so_ldA 0 rfl rfl rfl rfl rfl rfl (segO_all (by rw [evC_len h32]; rfl)) rfl ?_
      (refine so_1 rfl ?_)
      refine so_B rfl rfl rfl ⟨evC_len h32, rfl, trivial⟩ ?_
      have hx := hold_S (b := b) (F := pt g4 t_api_Event (evC e) :: F) (gq := gq) (gm := gm) (v := v) (V := V) (h := .slice A1 R.length c1) (R := R) (H := H) (e := e) (s := s) (hi.h32 hq) hi.sub (by omega) h32 hdok (hi.miss hfw) (up he (ent_keep 1 [] rfl rfl)) (up hr (ent_keep 1 [] rfl rfl)) hd hl
      refine so_call rfl rfl rfl (hx.ent (ent_keep 6 [1, 2, 3, 4, 5, 0] rfl rfl)) ?_
      rintro _ _ ⟨g, dv, rv, h', rfl⟩
      (refine so_nil ?_; refine sn_then ?_; refine sw_seq ?_; refine sw_region ?_; (iterate 2 refine so_1 rfl ?_); refine so_nil ?_; refine sn_then ?_; refine sw_ret ?_)
      refine sn_ret rfl (.tmp rfl (.tmp rfl .nil)) (ent_keep 6 [0, 1, 2, 3, 4] rfl rfl) ?_
      have hc : addL V L e s = insL (nW ⟨0, e, s⟩) L := by rw [addL, hfw, if_neg (by simp [hf, hh]), if_neg (by simp), if_neg hm]
      refine ⟨?_, h', _, _, rfl, ?_, ?_⟩
      · have hm' : L.length < 64 := by omega
        rw [addB, addE, hf, hh, hfw]; simp [hm, hm', tupl]
      · rw [hc]; exact hq.ins hfn hh hfw hew hl (by omega)
      · rw [hc]
        have hup : (upG (R.length + 1) (R ++ [(⟨g, e.own dv rv, s⟩ : Wn)]) R.length).Perm (R ++ [⟨g, e.own dv rv, s⟩]) := upG_perm _ _ _ (by simp)
        refine ⟨hup.trans (hi.perm.append_right _), ?_, ?_⟩
        · rw [upG_len, List.length_append, List.length_singleton]; exact push_hpG hi.hp
        · rw [List.map_append]
          refine (insL_perm _ _).trans ?_
          exact (List.Perm.cons _ hi.pm).trans (List.perm_append_comm (l₁ := [nW ⟨g, e.own dv rv, s⟩]))
end
end Go.Proofs.Ytgkhflcpbjlmiaa
/- Queues, part twenty-two: Vector, Ripe, Held, Holds. Conditions: none. -/
namespace Go.Proofs.Ytgkhflcpbjlmiaa
open Go.Eng Go.RowKit Go.WideMaps Go.Heap

theorem HI.ord {n : Nat} {V : List Int} {L R H O : List Wn} (hq : QI n V L) (hi : HI L R H) (h1 : O.Perm R) (h2 : O.Pairwise leG) : O.map nW = L := by
  refine sorted_uniq ?_ hq.so (((h1.trans hi.perm).map nW).trans hi.pm.symm) hq.nd
  rw [List.pairwise_map]; exact h2
theorem ripes_nW (V : List Int) (O : List Wn) : ripes V (O.map nW) = ripes V O := by
  unfold ripes
  rw [List.filter_map, List.map_map]
  rfl
section
variable {b : World} {F : List SP} {gq n : Nat} {V : List Int} {L R H : List Wn} {w : Wn}
theorem wF_all {k : Nat} (hk : nth F k = some (all (wF H))) (he : w ∈ H) : ∀ W, Sat b F W → ∀ j, j < (waC w).length → W.cell? ⟨w.g, 0 + j, none⟩ = (waC w)[j]? := fun W hS j hj => by
  rw [Nat.zero_add]; exact (wF_blk hk he W hS).cell j
theorem Vector_Q : SC Try.prog n_p_hold_Queue_Vector [.pointer (some ⟨gq, 0, none⟩)] b (que gq n V L :: F) (fun u F' => F' = rZ u V :: que gq n V L :: F) := by
  refine SC.opn ?_
  rintro ⟨gm, v, h, R, H⟩ ⟨hq, hi⟩
  dsimp only at hi
  show SC _ _ _ _ (stH gq gm v V h R H F) _
  refine (Vector_S (by have := hq.len; have := hq.n2; omega)).out ?_
  rintro u _ rfl
  exact ⟨_, ent_cons (ent_pack (G := fun s => stH gq s.1 s.2.1 V s.2.2.1 s.2.2.2.1 s.2.2.2.2 []) (gm, v, h, R, H) ⟨hq, hi⟩), rfl⟩
theorem Ripe_Q : SC Try.prog n_p_hold_Queue_Ripe [.pointer (some ⟨gq, 0, none⟩)] b (que gq n V L :: F) (fun u F' => ∃ A c, u = .slice A (ripes V L).length c ∧ F' = rO A c (ripes V L).length (ripes V L) :: que gq n V L :: F) := by
  refine SC.opn ?_
  rintro ⟨gm, v, h, R, H⟩ ⟨hq, hi⟩
  dsimp only at hi
  show SC _ _ _ _ (stH gq gm v V h R H F) _
  have hl := HI.len hi
  have hm := hq.many
  refine (Ripe_S (HI.h32 hq hi) (HI.sub hi) hi.hp (by omega)).out ?_
  rintro u _ ⟨O, A, c, h1, h2, h3, rfl⟩
  have e : ripes V O = ripes V L := by rw [← ripes_nW, HI.ord hq hi h1 h2]
  rw [e] at h3 ⊢
  exact ⟨_, ent_cons (ent_pack (G := fun s => stH gq s.1 s.2.1 V s.2.2.1 s.2.2.2.1 s.2.2.2.2 []) (gm, v, h, R, H) ⟨hq, hi⟩), A, c, h3, rfl⟩
set_option maxRecDepth 20000 in
set_option maxHeartbeats 4000000 in
theorem Held_S {gm : Nat} {v h : Value} (hq : QI n V L) (hi : HI L R H) : SC Try.prog n_p_hold_Queue_Held [.pointer (some ⟨gq, 0, none⟩)] b (stH gq gm v V h R H F) (fun u F' => ∃ D, D.map nW = L ∧ F' = rWs u D :: all (wsF D) :: stH gq gm v V h R H F) := by
  have hl := HI.len hi
  have hm := hq.many
  refine enterS F_p_hold_Queue_Held rfl rfl rfl ?_
  (refine sw_seq ?_; refine sw_region ?_; refine so_1 rfl ?_; refine so_nil ?_; refine sn_then ?_; (iterate 2 refine sw_seq ?_); refine sw_region ?_; refine so_1 rfl ?_)
  refine so_callE rfl rfl rfl (none_H) ?_
  (refine so_nil ?_; refine sn_then ?_; refine sw_cond_f rfl ?_; refine sw_skip ?_; refine sn_then ?_; (iterate 2 refine sw_seq ?_); refine sw_region ?_; (iterate 3 refine so_1 rfl ?_); refine so_l 0 rfl rfl rfl ?_)
  refine so_call rfl rfl rfl ((drained_S (F := pt gq t_hold_Queue [v, h, .map (some gm)] :: rZ v V :: rP h R :: mpH gm H :: F) (up (fun w H => (H.oat (k := 2) rfl).sl) (ent_keep 5 [1, 2, 3, 4, 0] rfl rfl)) (HI.h32 hq hi) (HI.sub hi) hi.hp (by omega)).ent (ent_keep 5 [4, 0, 1, 2, 3] rfl rfl)) ?_
  rintro v11 _ ⟨O, hO1, hO2, rfl⟩
  have hord := HI.ord hq hi hO1 hO2
  refine so_fact (fun w H => (H.oat (k := 0) rfl).form) ?_
  rintro ⟨A1, c1, rfl, _, _, k3⟩
  have hOl := hO1.length_eq
  ((iterate 2 refine so_1 rfl ?_); refine so_nil ?_; refine sn_then ?_; refine sw_block ?_)
  refine sw_loop (S := Nat × List Wn × Nat × Option Addr × Nat) (fun s => [(0, .pointer (some ⟨gq, 0, none⟩)), (2, .slice s.2.2.2.1 s.2.2.1 s.2.2.2.2), (11, .slice A1 O.length c1), (12, .int .i64 O.length), (13, .int .i64 (s.1 : Int))])
    (fun s => rWn s.2.2.2.1 s.2.2.2.2 s.2.2.1 s.2.1 :: all (wsF s.2.1) :: rW A1 c1 O.length O :: stH gq gm v V h R H F) (fun s => s.1 ≤ O.length ∧ s.2.1.map nW = (O.take s.1).map nW ∧ s.2.1.length = s.2.2.1) (fun s => O.length - s.1) (0, [], 0, none, 0) ⟨rfl, rfl, rfl, rfl, rfl, trivial⟩ ?_ ⟨Nat.zero_le _, rfl, rfl⟩ ?_
  · exact ((ent_close (G := [])).trans (ent_row_nil t_api_Waiting 40 rfl)).trans (ent_keep 8 [0, 1, 2, 4, 5, 6, 7, 3] rfl rfl)
  rintro ⟨i, D, o, A, c⟩ ⟨hi1, hD, ho⟩
  dsimp only at hi1 hD ho ⊢
  have hDl : D.length = i := by have := congrArg List.length hD; rw [List.length_map, List.length_map, List.length_take] at this; omega
  (refine sw_seq ?_; refine sw_region ?_; refine so_1 rfl ?_; refine so_nil ?_; refine sn_then ?_; refine sw_seq ?_)
  refine sw_if rfl (fun h1 => ?_) (fun h1 => ?_)
  · have h1' : i < O.length := by omega
    obtain ⟨gg, oo, rfl⟩ := k3 (by omega)
    have hmem : O[i] ∈ H := HI.sub hi _ (hO1.subset (List.getElem_mem h1'))
    have ci : (ptrs O)[i]? = some (.pointer (some ⟨O[i].g, 0, none⟩)) := by simp [ptrs, h1']
    have hsn : (O.take (i + 1)).map nW = D.map nW ++ [nW O[i]] := by rw [List.take_succ_eq_append_getElem h1', List.map_append, ← hD]; rfl
    generalize O[i] = x at *
    have hx32 := HI.h32 hq hi x hmem
    have hxd : x.e.deps.length ≤ 1000000 := by
      have := of_decide_eq_true (hq.fit _ (hi.mem hmem))
      have h7 : x.e.deps.length = n := this.2.2.2.2.2.2.1
      have := hq.n2; omega
    have hxl : x.e.refs.length ≤ 1000000 := hq.rf (nW x) (hi.mem hmem)
    (refine sw_skip ?_; refine sn_then ?_; refine sw_seq ?_; refine sw_block ?_; refine sw_seq ?_; refine sw_region ?_; refine so_2 rfl (by omega) ?_)
    refine so_rd rfl (fun w H => ex_load rfl rfl rfl (by rw [mulz_eq, Int.toNat_natCast, Nat.mul_one]; exact row_cell (k := 2) rfl ci w H)) rfl ?_
    (refine so_1 rfl ?_; refine so_nil ?_; refine sn_then ?_; refine sw_region ?_; (iterate 3 refine so_1 rfl ?_))
    refine so_rd rfl (fun w H => ex_loadN (cs := waC x) rfl rfl rfl (wsC_len hx32) (wF_all (k := 7) rfl hmem w H)) rfl ?_
    refine so_call rfl rfl rfl (own_S hx32 (wF_dv (k := 7) rfl hmem) (wF_rv (k := 7) rfl hmem) hxd hxl) ?_
    rintro _ _ ⟨dv, rv, rfl, rfl⟩
    refine so_fact (fun w H => (H.oat (k := 0) rfl).form) ?_
    rintro ⟨A2, c2, rfl, _, _, _⟩
    refine so_fact (fun w H => (H.oat (k := 1) rfl).form) ?_
    rintro ⟨A3, c3, rfl, _, _, _⟩
    generalize hye : x.e.own (.slice A2 x.e.deps.length c2) (.slice A3 x.e.refs.length c3) = ye
    have hy32 : ye.id.length = 32 := by rw [← hye]; exact hx32
    have hyone : ∀ u ∈ wsC ye x.src, u.oneCell' = true := wsC_one (by rw [← hye]; rfl) (by rw [← hye]; rfl)
    refine so_lit1 rfl rfl rfl rfl rfl rfl rfl (wsC_len hy32) (by decide) fun gl => ?_
    refine so_append 3 rfl rfl rfl rfl rfl rfl rfl rfl rfl (m := 1) (news := wsC ye x.src) (fun w H => (H.blk (k := 0) rfl).sl (by rw [wsC_len hy32]) (by decide)) hyone (by omega) (fun _ => rfl) fun v8 => ?_
    refine so_fact (fun w H => (H.oat (k := 3) rfl).form) ?_
    rintro ⟨A7, c7, rfl, _, _, _⟩
    (refine so_1 rfl ?_; refine so_nil ?_; refine sn_block ?_; refine sn_then ?_; refine sw_region ?_; refine so_2 rfl (by (unfold I64; omega)) ?_; refine so_1 rfl ?_; refine so_nil ?_)
    have hnx : nW ⟨0, ye, x.src⟩ = nW x := by rw [← hye]; rfl
    refine sn_ent (G := wsP ⟨0, ye, x.src⟩ ++ (all (wsF D) :: rWn A7 c7 (o + 1) (D ++ [⟨0, ye, x.src⟩]) :: rW (some ⟨gg, oo, none⟩) c1 O.length O :: stH gq gm v V h R H F)) ?_ ?_
    · have e1 : rWn A7 c7 (o + 1) (D ++ [⟨0, ye, x.src⟩]) = row t_api_Waiting 40 (.slice A7 (o + 1) c7) (o + 1) (wssC D ++ wsC ye x.src) := by
        simp only [rWn, flC_app, flC, List.append_nil]
      rw [e1]
      subst hye
      exact ent_keep 10 [1, 2, 4, 3, 5, 6, 7, 8, 9] rfl rfl
    refine sn_ent (ent_in (A := wsF (D ++ [⟨0, ye, x.src⟩])) wsF_snoc) ?_
    refine sn_round (i + 1, D ++ [⟨0, ye, x.src⟩], o + 1, A7, c7) ⟨rfl, rfl, rfl, rfl, rfl, trivial⟩ (ent_keep 3 [1, 0, 2] rfl rfl) ⟨h1', by dsimp only; rw [hsn, List.map_append]; simp [hnx], by simp [ho]⟩ (by dsimp only; omega)
  · (refine sw_exit ?_; refine sn_then_exit ?_; refine sn_loop_exit ?_; refine sn_block_exit ?_; refine sn_then ?_; refine sw_seq ?_; refine sw_region ?_; (iterate 2 refine so_1 rfl ?_); refine so_nil ?_; refine sn_then ?_; refine sw_ret ?_)
    obtain rfl : i = O.length := by omega
    rw [List.take_length, hord] at hD
    subst ho
    refine sn_ret rfl (.tmp rfl .nil) (ent_keep 8 [0, 1, 3, 4, 5, 6, 7] rfl rfl) ?_
    exact ⟨D, hD, rfl⟩
theorem Held_Q : SC Try.prog n_p_hold_Queue_Held [.pointer (some ⟨gq, 0, none⟩)] b (que gq n V L :: F) (fun u F' => ∃ D, D.map nW = L ∧ F' = rWs u D :: all (wsF D) :: que gq n V L :: F) := by
  refine SC.opn ?_
  rintro ⟨gm, v, h, R, H⟩ ⟨hq, hi⟩
  dsimp only at hi
  refine (Held_S hq hi).out ?_
  rintro u _ ⟨D, hD, rfl⟩
  exact ⟨_, ent_cons (ent_cons (ent_pack (G := fun s => stH gq s.1 s.2.1 V s.2.2.1 s.2.2.2.1 s.2.2.2.2 []) (gm, v, h, R, H) ⟨hq, hi⟩)), D, hD, rfl⟩
set_option maxRecDepth 20000 in
set_option maxHeartbeats 4000000 in
theorem Holds_S {gm : Nat} {v h : Value} {d : Int × Int} (hd : dotOk d) (hq : QI n V L) (hi : HI L R H) : SC Try.prog n_p_hold_Queue_Holds [.pointer (some ⟨gq, 0, none⟩), dotP d] b (stH gq gm v V h R H F) (fun u F' =>
    (findW d L = none ∧ u = .tuple ⟨[.agg ⟨wsC ev0 0⟩, .bool false]⟩ ∧ F' = stH gq gm v V h R H F) ∨ ∃ x dv rv, findW d L = some x ∧ u = .tuple ⟨[.agg ⟨wsC (x.e.own dv rv) x.src⟩, .bool true]⟩ ∧ F' = rZ dv x.e.deps :: rD rv x.e.refs :: stH gq gm v V h R H F) := by
  refine enterS F_p_hold_Queue_Holds rfl rfl rfl ?_
  (refine sw_seq ?_; refine sw_region ?_)
  refine so_box rfl rfl rfl rfl rfl fun g3 => ?_
  skip
  refine so_new rfl rfl rfl rfl rfl fun g4 => ?_
  refine so_ent (ent_keep 7 [2, 3, 4, 5, 6, 0, 1] rfl rfl) ?_
  (refine so_1 rfl ?_; refine so_nil ?_; refine sn_then ?_; (iterate 2 refine sw_seq ?_); refine sw_region ?_; refine so_1 rfl ?_)
  refine so_callE rfl rfl rfl (none_H) ?_
  (refine so_nil ?_; refine sn_then ?_; refine sw_cond_f rfl ?_; refine sw_skip ?_; refine sn_then ?_; refine sw_seq ?_)
  refine sw_draw flo _ (by decide +kernel) (Ent.refl _) ?_
  ((iterate 3 refine sd_1 rfl (.inl rfl) ?_); refine sd_l 0 rfl rfl rfl rfl ?_; refine sd_l 6 rfl rfl rfl rfl ?_)
  cases hfw : findW d L with
  | none =>
    refine sd_look0 3 dotMK hd (hi.miss hfw) rfl rfl rfl rfl rfl rfl rfl rfl rfl ?_
    ((iterate 5 refine sd_1 rfl (.inl rfl) ?_))
    refine sd_nil ?_
    (refine sn_then ?_; (iterate 2 refine sw_seq ?_); refine sw_region ?_; (iterate 2 refine so_1 rfl ?_); refine so_nil ?_; refine sn_then ?_; refine sw_cond_t rfl ?_; refine sw_seq ?_; refine sw_region ?_; refine so_1 rfl ?_; refine so_s1 5 rfl rfl rfl rfl ?_; refine so_1 rfl ?_; refine so_nil ?_; refine sn_then ?_; refine sw_ret ?_; refine sn_then_ret ?_)
    refine sn_ret rfl (.agg 5 rfl rfl rfl rfl rfl (.tmp rfl .nil)) (ent_keep 7 [0, 1, 2, 3, 4] rfl rfl) ?_
    exact .inl ⟨rfl, rfl, rfl⟩
  | some x =>
    obtain ⟨w, hw, hwd, hwx, hwg⟩ := hi.hit hq hfw
    have hx32 := HI.h32 hq hi w hw
    have hxd : w.e.deps.length ≤ 1000000 := by
      have := of_decide_eq_true (hq.fit _ (hi.mem hw))
      have h7 : w.e.deps.length = n := this.2.2.2.2.2.2.1
      have := hq.n2; omega
    have hxl : w.e.refs.length ≤ 1000000 := hq.rf (nW w) (hi.mem hw)
    refine sd_look1 3 dotMK hd hwg rfl rfl rfl rfl rfl rfl rfl rfl rfl ?_
    ((iterate 5 refine sd_1 rfl (.inl rfl) ?_))
    refine sd_nil ?_
    (refine sn_then ?_; (iterate 2 refine sw_seq ?_); refine sw_region ?_; (iterate 2 refine so_1 rfl ?_); refine so_nil ?_; refine sn_then ?_; refine sw_cond_f rfl ?_; refine sw_skip ?_; refine sn_then ?_; refine sw_seq ?_; refine sw_region ?_; (iterate 2 refine so_1 rfl ?_))
    refine so_rd rfl (fun w' H => ex_loadN (cs := waC w) rfl rfl rfl (wsC_len hx32) (wF_all (k := 4) rfl hw w' H)) rfl ?_
    refine so_call rfl rfl rfl (own_S hx32 (wF_dv (k := 4) rfl hw) (wF_rv (k := 4) rfl hw) hxd hxl) ?_
    rintro _ _ ⟨dv, rv, rfl, rfl⟩
    refine so_fact (fun w H => (H.oat (k := 0) rfl).form) ?_
    rintro ⟨A2, c2, rfl, _, _, _⟩
    refine so_fact (fun w H => (H.oat (k := 1) rfl).form) ?_
    rintro ⟨A3, c3, rfl, _, _, _⟩
    have hy32 : (w.e.own (.slice A2 w.e.deps.length c2) (.slice A3 w.e.refs.length c3)).id.length = 32 := hx32
    have hyone : ∀ u ∈ wsC (w.e.own (.slice A2 w.e.deps.length c2) (.slice A3 w.e.refs.length c3)) w.src, u.oneCell' = true := wsC_one rfl rfl
    refine so_stW 7 rfl rfl rfl rfl rfl rfl rfl (wsC_len hy32) hyone (by rw [wsC_len hy32]; rfl) ?_
    (refine so_1 rfl ?_; refine so_nil ?_; refine sn_then ?_; refine sw_ret ?_)
    refine sn_ret rfl (.whole 7 rfl rfl rfl rfl (by rw [wsC_len hy32]; rfl) (.tmp rfl .nil)) (ent_keep 9 [0, 1, 2, 3, 4, 5, 6] rfl rfl) ?_
    subst hwx
    exact .inr ⟨_, _, _, rfl, rfl, rfl⟩
theorem Holds_Q {d : Int × Int} (hd : dotOk d) : SC Try.prog n_p_hold_Queue_Holds [.pointer (some ⟨gq, 0, none⟩), dotP d] b (que gq n V L :: F) (fun u F' =>
    (findW d L = none ∧ u = .tuple ⟨[.agg ⟨wsC ev0 0⟩, .bool false]⟩ ∧ F' = que gq n V L :: F) ∨ ∃ x dv rv, findW d L = some x ∧ u = .tuple ⟨[.agg ⟨wsC (x.e.own dv rv) x.src⟩, .bool true]⟩ ∧ F' = rZ dv x.e.deps :: rD rv x.e.refs :: que gq n V L :: F) := by
  refine SC.opn ?_
  rintro ⟨gm, v, h, R, H⟩ ⟨hq, hi⟩
  dsimp only at hi
  refine (Holds_S hd hq hi).out ?_
  have hp := ent_pack (G := fun s : Nat × Value × Value × List Wn × List Wn => stH gq s.1 s.2.1 V s.2.2.1 s.2.2.2.1 s.2.2.2.2 []) (p := fun s => QI n V L ∧ HI L s.2.2.2.1 s.2.2.2.2) (F := F) (gm, v, h, R, H) ⟨hq, hi⟩
  rintro u _ (⟨h1, h2, rfl⟩ | ⟨x, dv, rv, h1, h2, rfl⟩)
  · exact ⟨_, hp, .inl ⟨h1, h2, rfl⟩⟩
  · exact ⟨_, ent_cons (ent_cons hp), .inr ⟨x, dv, rv, h1, h2, rfl⟩⟩
end
end Go.Proofs.Ytgkhflcpbjlmiaa
/- Queues, part twenty-three: Deliver, Own. Conditions: none. -/
namespace Go.Proofs.Ytgkhflcpbjlmiaa
open Go.Eng Go.RowKit Go.WideMaps Go.Heap

def advV (V : List Int) (r m : Int) : List Int := V.set (r - 1).toNat m
theorem nn_adv {V : List Int} {r m : Int} (h1 : 1 ≤ r) (h2 : r ≤ V.length) (i : Nat) : nn (advV V r m) i = if i = (r - 1).toNat then max m 0 else nn V i := by
  unfold nn advV
  rw [List.getD_eq_getElem?_getD, List.getElem?_set]
  by_cases h : (r - 1).toNat = i
  · rw [if_pos h, if_pos h.symm, if_pos (by omega)]; rfl
  · rw [if_neg h, if_neg (fun e => h e.symm), ← List.getD_eq_getElem?_getD]
theorem atL_adv {V : List Int} {r m : Int} (h1 : 1 ≤ r) (h2 : r ≤ V.length) (h3 : 0 ≤ m) (q : Int) : atL (advV V r m) q = if q = r then m else atL V q := by
  have hl : (advV V r m).length = V.length := by simp [advV]
  unfold atL
  rw [hl]
  by_cases h : q = r
  · subst h
    rw [if_pos ⟨h1, h2⟩, if_pos rfl, nn_adv h1 h2, if_pos rfl]; omega
  · rw [if_neg h]
    split
    · rw [nn_adv h1 h2, if_neg (by omega)]
    · rfl
theorem withL_adv {V : List Int} {r m : Int} (hV : numOk V) (h0 : V.length ≤ 16) (h1 : 1 ≤ r) (h2 : r ≤ V.length) (h3 : 1 ≤ m) (h4 : atL V r < m) : withL V r m = advV V r m := by
  have hol : (oneL r m).length = r.toNat := by simp [oneL]
  have hw : withL V r m = joinL V (oneL r m) := by
    rw [withL, if_neg (by omega)]
  rw [hw]
  apply List.ext_getElem
  · simp only [pickL, List.length_map, List.length_range, advV, List.length_set]; omega
  · intro i hi1 hi2
    have hiV : i < V.length := by simpa [advV] using hi2
    have hvi := hV _ (List.getElem_mem hiV)
    have e1 : (joinL V (oneL r m))[i] = max (nn V i) (nn (oneL r m) i) := by simp [pickL]
    have hv : nn V i = V[i] := by rw [nn_in hiV]; omega
    rw [e1, hv]
    have ha : (advV V r m)[i] = if (r - 1).toNat = i then m else V[i] := by simp only [advV, List.getElem_set]
    rw [ha]
    by_cases h : (r - 1).toNat = i
    · rw [if_pos h]
      have hat : atL V r = V[i] := by
        rw [atL, if_pos ⟨h1, h2⟩, h, hv]
      have ho : nn (oneL r m) i = m := by
        unfold nn oneL
        rw [List.getD_eq_getElem?_getD, List.getElem?_set, if_pos h, if_pos (by rw [List.length_replicate]; omega)]
        show max m 0 = m
        omega
      rw [ho]; omega
    · rw [if_neg h]
      have ho : nn (oneL r m) i = 0 := by
        unfold nn oneL
        rw [List.getD_eq_getElem?_getD, List.getElem?_set, if_neg h, List.getElem?_replicate]
        split <;> rfl
      rw [ho]; omega
theorem QI.adv {n : Nat} {V : List Int} {L L' : List Wn} {r m : Int} (hq : QI n V L) (h1 : 1 ≤ r) (h2 : r ≤ V.length) (h3 : 1 ≤ m) (h4 : m ≤ 1048576) (hs : L'.Sublist L) (hn : ∀ w ∈ L', w.e.r = r → m < w.e.n) : QI n (advV V r m) L' where
  n1 := hq.n1
  n2 := hq.n2
  len := by simp [advV, hq.len]
  num := fun x hx => by
    rcases List.mem_or_eq_of_mem_set hx with h | rfl
    · exact hq.num x h
    · omega
  nd := (hs.map dotW).nodup hq.nd
  fit := fun w hw => hq.fit w (hs.subset hw)
  new := fun w hw => by
    have h5 := hq.new w (hs.subset hw)
    have h6 := of_decide_eq_true (hq.fit w (hs.subset hw))
    have h7 : 1 ≤ w.e.r ∧ 1 ≤ w.e.n := ⟨h6.2.2.1, h6.2.2.2.2.1⟩
    simp only [hasL, decide_eq_true h7.1, decide_eq_true h7.2, Bool.true_and, decide_eq_false_iff_not] at h5 ⊢
    rw [atL_adv h1 h2 (by omega)]
    split
    · rename_i h; have := hn w hw h; omega
    · exact h5
  ew := fun w hw => hq.ew w (hs.subset hw)
  rf := fun w hw => hq.rf w (hs.subset hw)
  many := Nat.le_trans hs.length_le hq.many
  nrm := fun w hw => hq.nrm w (hs.subset hw)
  so := hq.so.sublist hs
/-- A ripe one stands just behind what was delivered of its region. -/
theorem QI.ripe {n : Nat} {V : List Int} {L : List Wn} {x : Wn} (hq : QI n V L) (hx : x ∈ L) (hl : leqL x.e.deps V = true) : 1 ≤ x.e.r ∧ x.e.r ≤ V.length ∧ 1 ≤ x.e.n ∧ x.e.n ≤ 1048576 ∧ atL V x.e.r = x.e.n - 1 := by
  have h := of_decide_eq_true (hq.fit x hx)
  obtain ⟨_, _, h1, h2, h3, h4, h5, _, h7⟩ := h
  have hlen := hq.len
  refine ⟨h1, by omega, h3, h4, ?_⟩
  have h8 := hq.new x hx
  simp only [hasL, decide_eq_true h1, decide_eq_true h3, Bool.true_and, decide_eq_false_iff_not] at h8
  have h9 := (leqL_iff _ _).1 hl (x.e.r - 1).toNat
  have h10 : nn x.e.deps (x.e.r - 1).toNat = x.e.n - 1 := by
    unfold nn; rw [h7]; omega
  rw [atL, if_pos ⟨h1, by omega⟩] at h8 ⊢
  omega
theorem QI.del {n : Nat} {V : List Int} {L : List Wn} {x : Wn} (hq : QI n V L) (hx : x ∈ L) (hl : leqL x.e.deps V = true) : QI n (advV V x.e.r x.e.n) (delW (dotW x) L) := by
  obtain ⟨h1, h2, h3, h4, h5⟩ := hq.ripe hx hl
  refine hq.adv h1 h2 h3 h4 List.filter_sublist fun w hw hr => ?_
  obtain ⟨hw1, hw2⟩ := delW_mem.1 hw
  have h6 := of_decide_eq_true (hq.fit w hw1)
  have h7 : 1 ≤ w.e.r ∧ 1 ≤ w.e.n := ⟨h6.2.2.1, h6.2.2.2.2.1⟩
  have h8 := hq.new w hw1
  simp only [hasL, decide_eq_true h7.1, decide_eq_true h7.2, Bool.true_and, decide_eq_false_iff_not] at h8
  rw [hr] at h8
  have : w.e.n ≠ x.e.n := fun hc => hw2 (by rw [dotW, dotW, hr, hc])
  omega
theorem delM_wM {d : Int × Int} {a c : List Wn} {x : Wn} (ha : ∀ y ∈ a, dotW y ≠ d) (hx : dotW x = d) : delM d (wM (a ++ x :: c)) = wM (a ++ c) := by
  induction a with
  | nil => simp only [List.nil_append, wM, delM]; rw [if_pos hx]
  | cons y a ih =>
    simp only [List.cons_append, wM, delM]
    rw [if_neg (ha y List.mem_cons_self), ih fun z hz => ha z (List.mem_cons_of_mem _ hz)]
theorem wF_ne {b : World} {F : List SP} {k : Nat} {H l1 l2 : List Wn} {w : Wn} (hk : nth F k = some (all (wF H))) (hH : H = l1 ++ w :: l2) : ∀ W, Sat b F W → ∀ x ∈ l1 ++ l2, x.g ≠ w.g := fun W hS x hx => by
  subst hH
  obtain ⟨m1, m2, hm⟩ := List.append_of_mem hx
  obtain ⟨h1, l, hA⟩ := hS.mem.get hk
  have hp : (wF (l1 ++ w :: l2)).Perm (wP w ++ (wP x ++ wF (m1 ++ m2))) := wF_at.trans (List.Perm.append_left _ (by rw [hm]; exact wF_at))
  have hS2 : Sat b (wP w ++ (wP x ++ wF (m1 ++ m2))) W := ⟨hS.os, hS.tape, hS.output, (ent_perm hp _ hA).mono l⟩
  exact (hS2.ne (i := 0) (j := 3) rfl rfl (by decide)).symm
def delE (V : List Int) (L : List Wn) (d : Int × Int) : Int := match findW d L with
  | none => 26
  | some x => if leqL x.e.deps V then 0 else 25
def ownE (V : List Int) (L : List Wn) (r : Int) : Int := if r < 1 ∨ V.length < r then 3 else if 1048576 ≤ atL V r then 10 else if (findW (r, atL V r + 1) L).isSome then 19 else 0
def ownD (V : List Int) (L : List Wn) (r : Int) : Int × Int := if ownE V L r = 0 then (r, atL V r + 1) else (0, 0)
def ownV (V : List Int) (L : List Wn) (r : Int) : List Int := if ownE V L r = 0 then advV V r (atL V r + 1) else V
section
variable {b : World} {F : List SP} {gq n : Nat} {V : List Int} {L R H : List Wn} {d : Int × Int}
theorem hpG_lt {a : List Wn} {k : Nat} (h : hpG k a) (hk : k ≤ a.length) : hpG (a.take k).length (a.take k) := by
  rw [List.length_take, Nat.min_eq_left hk]; exact hpG_take.2 h
set_option maxRecDepth 20000 in
set_option maxHeartbeats 4000000 in
theorem Deliver_S {gm : Nat} {v h : Value} (hd : dotOk d) (hq : QI n V L) (hi : HI L R H) : SC Try.prog n_p_hold_Queue_Deliver [.pointer (some ⟨gq, 0, none⟩), dotP d] b (stH gq gm v V h R H F) (fun u F' =>
    (delE V L d ≠ 0 ∧ u = .tuple ⟨[evV ev0, .int .i64 (delE V L d)]⟩ ∧ F' = stH gq gm v V h R H F) ∨
    ∃ x w v' h' R' H', findW d L = some x ∧ leqL x.e.deps V = true ∧ nW w = x ∧ u = .tuple ⟨[evV w.e, .int .i64 0]⟩ ∧ HI (delW d L) R' H' ∧ F' = rZ w.e.dv w.e.deps :: rD w.e.rv w.e.refs :: stH gq gm v' (advV V d.1 d.2) h' R' H' F) := by
  have hl := hi.len
  have hm := hq.many
  refine enterS F_p_hold_Queue_Deliver rfl rfl rfl ?_
  (refine sw_seq ?_; refine sw_region ?_)
  refine so_box rfl rfl rfl rfl rfl fun g3 => ?_
  skip
  refine so_new rfl rfl rfl rfl rfl fun g4 => ?_
  refine so_ent (ent_keep 7 [2, 3, 4, 5, 6, 0, 1] rfl rfl) ?_
  (refine so_1 rfl ?_; refine so_nil ?_; refine sn_then ?_; (iterate 2 refine sw_seq ?_); refine sw_region ?_; refine so_1 rfl ?_)
  refine so_callE rfl rfl rfl (none_H) ?_
  (refine so_nil ?_; refine sn_then ?_; refine sw_cond_f rfl ?_; refine sw_skip ?_; refine sn_then ?_; refine sw_seq ?_)
  refine sw_draw flo _ (by decide +kernel) (Ent.refl _) ?_
  ((iterate 3 refine sd_1 rfl (.inl rfl) ?_); refine sd_l 0 rfl rfl rfl rfl ?_; refine sd_l 6 rfl rfl rfl rfl ?_)
  cases hfw : findW d L with
  | none =>
    refine sd_look0 3 dotMK hd (hi.miss hfw) rfl rfl rfl rfl rfl rfl rfl rfl rfl ?_
    ((iterate 5 refine sd_1 rfl (.inl rfl) ?_))
    refine sd_nil ?_
    (refine sn_then ?_; refine sw_seq ?_; refine sw_block ?_; refine sw_seq ?_; refine sw_region ?_; (iterate 3 refine so_1 rfl ?_); refine so_nil ?_; refine sn_then ?_; refine sw_cond_t rfl ?_; refine sw_seq ?_; refine sw_region ?_; refine so_1 rfl ?_; refine so_s1 5 rfl rfl rfl rfl ?_; refine so_1 rfl ?_; refine so_nil ?_; refine sn_then ?_; refine sw_ret ?_; refine sn_block_ret ?_; refine sn_then_ret ?_)
    refine sn_ret rfl (.agg 5 rfl rfl rfl rfl rfl (.tmp rfl .nil)) (ent_keep 7 [0, 1, 2, 3, 4] rfl rfl) ?_
    have hE : delE V L d = 26 := by rw [delE, hfw]
    exact .inl ⟨by rw [hE]; decide, by rw [hE]; rfl, rfl⟩
  | some x =>
    obtain ⟨w, hw, hwd, hwx, hwg⟩ := hi.hit hq hfw
    refine sd_look1 3 dotMK hd hwg rfl rfl rfl rfl rfl rfl rfl rfl rfl ?_
    ((iterate 5 refine sd_1 rfl (.inl rfl) ?_))
    refine sd_nil ?_
    (refine sn_then ?_; refine sw_seq ?_; refine sw_block ?_; refine sw_seq ?_; refine sw_region ?_; (iterate 3 refine so_1 rfl ?_); refine so_nil ?_; refine sn_then ?_; refine sw_cond_f rfl ?_; refine sw_seq ?_; refine sw_region ?_; (iterate 2 refine so_1 rfl ?_))
    refine so_callE rfl rfl rfl (ripe_S hw) ?_
    cases hlq : leqL w.e.deps V with
    | false =>
      have hE : delE V L d = 25 := by
        rw [delE, hfw]; show (if leqL x.e.deps V = true then _ else _) = _
        rw [if_neg]; rw [← hwx]; show ¬ leqL w.e.deps V = true; rw [hlq]; decide
      ((iterate 2 refine so_1 rfl ?_); refine so_nil ?_; refine sn_then ?_; refine sw_cond_t rfl ?_; refine sw_seq ?_; refine sw_region ?_; refine so_1 rfl ?_; refine so_s1 5 rfl rfl rfl rfl ?_; refine so_1 rfl ?_; refine so_nil ?_; refine sn_then ?_; refine sw_ret ?_; refine sn_block_ret ?_; refine sn_then_ret ?_)
      refine sn_ret rfl (.agg 5 rfl rfl rfl rfl rfl (.tmp rfl .nil)) (ent_keep 7 [0, 1, 2, 3, 4] rfl rfl) ?_
      exact .inl ⟨by rw [hE]; decide, by rw [hE]; rfl, rfl⟩
    | true =>
    have hxL := (findW_some hfw).1
    have hxl : leqL x.e.deps V = true := by rw [← hwx]; exact hlq
    have hw32 := hi.h32 hq w hw
    obtain ⟨l1, l2, hH⟩ := List.append_of_mem hw
    have hnd := hi.nd hq
    have hoff : ∀ y ∈ l1 ++ l2, dotW y ≠ d := by
      intro y hy hc
      rw [hH] at hnd
      have hp : (l1 ++ w :: l2).Perm (w :: (l1 ++ l2)) := List.perm_middle
      have := (hp.map dotW).nodup_iff.1 hnd
      simp only [List.map_cons, List.nodup_cons] at this
      exact this.1 (List.mem_map.2 ⟨y, hy, hc.trans hwd.symm⟩)
    have hdm : delM d (wM H) = wM (l1 ++ l2) := by rw [hH]; exact delM_wM (fun y hy => hoff y (List.mem_append_left _ hy)) hwd
    ((iterate 2 refine so_1 rfl ?_); refine so_nil ?_; refine sn_then ?_; refine sw_cond_f rfl ?_; refine sw_skip ?_; refine sn_block ?_; refine sn_then ?_; refine sw_seq ?_)
    refine sw_draw flo (pt gq t_hold_Queue [v, h, .map (some gm)] :: pt g3 t_api_Dot [.int .i64 d.1, .int .i64 d.2] :: F) (by decide +kernel) (ent_keep 7 [0, 6] rfl rfl) ?_
    ((iterate 3 refine sd_1 rfl (.inl rfl) ?_); refine sd_l 0 rfl rfl rfl rfl ?_; refine sd_l 1 rfl rfl rfl rfl ?_)
    refine sd_del 3 dotMK hd rfl rfl rfl rfl rfl rfl rfl rfl (ent_keep 7 [0, 6] rfl rfl) ?_
    refine sd_nil (sn_then (sw_seq ?_))
    rw [hdm]
    refine sw_fact (fun w H => wF_ne (k := 4) rfl hH w H) fun hgne => ?_
    refine sw_fact (fun w H => (H.oat (k := 2) rfl).form) ?_
    rintro ⟨A1, c1, rfl, _, _, _⟩
    have hwR : w ∈ R := hi.perm.symm.subset hw
    refine sw_draw2 flo 10 _ [] rfl (by decide +kernel) (Ent.refl _) ?_
    ((iterate 7 refine sd_1 rfl (.inl rfl) ?_); refine sd_l 0 rfl rfl rfl rfl ?_; refine sd_1 rfl (.inl rfl) ?_)
    refine sd_call rfl rfl rfl rfl (Index_S (H := H) (R := R) (e := w) (kk := 4) rfl hi.sub (fun w H => (H.oat (k := 2) rfl).sl) (by omega) hwR) ?_
    rintro _ _ ⟨⟨i, rfl, hiR, hig⟩, rfl⟩
    refine ⟨Ent.refl _, ?_⟩
    refine sd_nil (sn_draw2 rfl (ent_nil _) ?_)
    obtain ⟨k, hk⟩ : ∃ k, R.length = k + 1 := ⟨R.length - 1, by omega⟩
    have hRi : R[i] = w := by
      have hm1 : R[i] ∈ H := hi.sub _ (List.getElem_mem hiR)
      rw [hH] at hm1
      rcases List.mem_append.1 hm1 with h1 | h1
      · exact absurd hig (hgne _ (List.mem_append_left _ h1))
      · rcases List.mem_cons.1 h1 with h1 | h1
        · exact h1
        · exact absurd hig (hgne _ (List.mem_append_right _ h1))
    have hrem := hRemove_S (b := b) (F := rZ v V :: mp gm dotP dotOk (wM (l1 ++ l2)) :: pt g4 t_api_Event (evC ev0) :: pt g3 t_api_Dot [.int .i64 d.1, .int .i64 d.2] :: F) (A := A1) (c := c1) (n := k) (gh := gq) (t0 := t_hold_Queue) (off := 1) (cs := fun u => [v, u, .map (some gm)]) (l := R) (H := H) (i := i) (hcq _ _) (hi.h32 hq) hi.sub hk (by omega) (by omega)
    refine sd_fact (p := R.length = k + 1) (fun _ _ => hk) fun hk' => ?_
    refine sd_ent (G := pt gq t_hold_Queue [v, .slice A1 (k + 1) c1, .map (some gm)] :: rW A1 c1 (k + 1) R :: all (wF H) :: rZ v V :: mp gm dotP dotOk (wM (l1 ++ l2)) :: pt g4 t_api_Event (evC ev0) :: pt g3 t_api_Dot [.int .i64 d.1, .int .i64 d.2] :: F) (by rw [← hk']; exact ent_keep 7 [0, 2, 4, 1, 3, 5, 6] rfl rfl) ?_
    refine sd_call rfl rfl rfl rfl hrem ?_
    rintro _ _ ⟨rfl, rfl⟩
    refine ⟨ent_nil _, ?_⟩
    refine sd_nil ?_
    have hR'l : ((remG R i k).take k).length = k := by rw [List.length_take, remG_len]; omega
    have hR'p : ((remG R i k).take k ++ [w]).Perm R := by
      have h1 := last_split (m := remG R i k) (n := k) (by rw [remG_len]; exact hk)
      rw [remG_at hk (by omega), List.getD_eq_getElem?_getD, List.getElem?_eq_getElem hiR, Option.getD_some, hRi] at h1
      rw [← h1]; exact remG_perm hk (by omega)
    have hR'h : hpG ((remG R i k).take k).length ((remG R i k).take k) := by
      have h1 := remG_hp hk (by omega) (by rw [← hk]; exact hi.hp) (i := i)
      exact hpG_lt h1 (by rw [remG_len]; omega)
    generalize hR' : (remG R i k).take k = R' at *
    (refine sn_then ?_; refine sw_seq ?_)
    refine sw_draw2 flo 9 _ [] rfl (by decide +kernel) (Ent.refl _) ?_
    ((iterate 4 refine sd_1 rfl (.inl rfl) ?_); refine sd_l 0 rfl rfl rfl rfl ?_; refine sd_l 6 rfl rfl rfl rfl ?_)
    refine sd_call rfl rfl rfl rfl (SC.ofMade fun w H => With_spec_vector (vlZ (k := 3) rfl w H) (by have := hq.len; have := hq.n2; omega)) ?_
    rintro v2 _ rfl
    refine ⟨ent_keep 1 [] rfl rfl, ?_⟩
    refine sd_fact (fun w H => (H.oat (k := 0) rfl).form) ?_
    rintro ⟨A3, c3, rfl, _, _, _⟩
    ((iterate 2 refine sd_1 rfl (.inl rfl) ?_))
    refine sd_nil (sn_draw2 rfl (ent_nil _) ?_)
    skip
    refine sd_st 1 rfl rfl rfl rfl rfl rfl rfl rfl rfl rfl rfl (ent_nil _) ?_
    refine sd_nil ?_
    (refine sn_then ?_; refine sw_seq ?_; refine sw_region ?_; (iterate 3 refine so_1 rfl ?_))
    refine so_rd rfl (fun w' H => ex_loadN (cs := evC w.e) rfl rfl rfl (evC_len hw32) (fun j hj => by rw [Nat.zero_add]; exact wF_ev (k := 3) rfl hw w' H j hj)) rfl ?_
    refine so_fact (fun w' H => (wF_dv (k := 3) rfl hw w' H).form) ?_
    rintro ⟨A5, c5, hdv, _, _, _⟩
    refine so_fact (fun w' H => sl_form (wF_rv (k := 3) rfl hw w' H)) ?_
    rintro ⟨A6, c6, hrv, _, _, _⟩
    refine so_stW 6 rfl rfl rfl rfl rfl rfl rfl (evC_len hw32) (evC_one (by rw [hdv]; rfl) (by rw [hrv]; rfl)) (by rw [evC_len hw32]; rfl) ?_
    (refine so_1 rfl ?_; refine so_nil ?_; refine sn_then ?_; refine sw_ret ?_)
    obtain ⟨h1, h2, h3, h4, h5⟩ := hq.ripe hxL hxl
    have hdx : d = (x.e.r, x.e.n) := (findW_some hfw).2.symm
    have hwl : withL V d.1 d.2 = advV V d.1 d.2 := by
      rw [hdx]; exact withL_adv hq.num (by have := hq.len; have := hq.n2; omega) h1 h2 h3 (by show atL V x.e.r < x.e.n; omega)
    rw [hwl]
    refine sn_ret rfl (.whole 6 rfl rfl rfl rfl (by rw [evC_len hw32]; rfl) (.tmp rfl .nil)) ((ent_keep 8 [3, 0, 1, 2, 5] rfl rfl).trans ((ent_out (A := wF H) (B := wP w) (C := wF (l1 ++ l2)) (by rw [hH]; exact wF_at)).trans (ent_keep 8 [1, 2, 5, 4, 6, 7, 3] rfl rfl))) ?_
    refine .inr ⟨x, w, .slice A3 (advV V d.1 d.2).length c3, .slice A1 k c1, R', l1 ++ l2, rfl, hxl, hwx, rfl, ⟨?_, hR'h, ?_⟩, by simp only [stH, rP, hR'l]⟩
    · have h6 : (R' ++ [w]).Perm (l1 ++ w :: l2) := hR'p.trans (hH ▸ hi.perm)
      have h7 : (w :: R').Perm (w :: (l1 ++ l2)) := List.perm_append_comm.trans (h6.trans List.perm_middle)
      exact h7.cons_inv
    · have h6 : L.Perm (nW w :: (l1 ++ l2).map nW) := by
        have := hi.pm
        rw [hH] at this
        exact this.trans ((List.perm_middle (a := w)).map nW)
      have h7 := h6.filter fun y => decide (dotW y ≠ d)
      have e1 : (nW w :: (l1 ++ l2).map nW).filter (fun y => decide (dotW y ≠ d)) = (l1 ++ l2).map nW := by
        rw [List.filter_cons_of_neg (by simp [show dotW (nW w) = d from hwd])]
        rw [List.filter_eq_self]
        intro y hy
        obtain ⟨z, hz, rfl⟩ := List.mem_map.1 hy
        exact decide_eq_true (show dotW (nW z) ≠ d from hoff z hz)
      rw [e1] at h7
      exact h7
theorem Deliver_Q (hd : dotOk d) : SC Try.prog n_p_hold_Queue_Deliver [.pointer (some ⟨gq, 0, none⟩), dotP d] b (que gq n V L :: F) (fun u F' =>
    (delE V L d ≠ 0 ∧ u = .tuple ⟨[evV ev0, .int .i64 (delE V L d)]⟩ ∧ F' = que gq n V L :: F) ∨
    ∃ x w, findW d L = some x ∧ leqL x.e.deps V = true ∧ nW w = x ∧ u = .tuple ⟨[evV w.e, .int .i64 0]⟩ ∧ F' = rZ w.e.dv w.e.deps :: rD w.e.rv w.e.refs :: que gq n (advV V d.1 d.2) (delW d L) :: F) := by
  refine SC.opn ?_
  rintro ⟨gm, v, h, R, H⟩ ⟨hq, hi⟩
  dsimp only at hi
  refine (Deliver_S hd hq hi).out ?_
  rintro u _ (⟨h1, h2, rfl⟩ | ⟨x, w, v', h', R', H', h1, h2, h3, h4, h5, rfl⟩)
  · exact ⟨_, ent_pack (G := fun s : Nat × Value × Value × List Wn × List Wn => stH gq s.1 s.2.1 V s.2.2.1 s.2.2.2.1 s.2.2.2.2 []) (gm, v, h, R, H) ⟨hq, hi⟩, .inl ⟨h1, h2, rfl⟩⟩
  · have hqd : QI n (advV V d.1 d.2) (delW d L) := by
      have := hq.del (findW_some h1).1 h2
      rw [← (findW_some h1).2]; exact this
    exact ⟨_, ent_cons (ent_cons (ent_pack (G := fun s : Nat × Value × Value × List Wn × List Wn => stH gq s.1 s.2.1 (advV V d.1 d.2) s.2.2.1 s.2.2.2.1 s.2.2.2.2 []) (gm, v', h', R', H') ⟨hqd, h5⟩)), .inr ⟨x, w, h1, h2, h3, h4, rfl⟩⟩
set_option maxRecDepth 20000 in
set_option maxHeartbeats 4000000 in
theorem Own_S {gm : Nat} {v h : Value} {r : Int} (hr : I64 r) (hq : QI n V L) (hi : HI L R H) : SC Try.prog n_p_hold_Queue_Own [.pointer (some ⟨gq, 0, none⟩), .int .i64 r] b (stH gq gm v V h R H F) (fun u F' =>
    u = .tuple ⟨[dotP (ownD V L r), .int .i64 (ownE V L r)]⟩ ∧ ∃ v', F' = stH gq gm v' (ownV V L r) h R H F ∧ QI n (ownV V L r) L) := by
  have hVn := hq.len
  have h16 := hq.n2
  have e0 : ∀ {k : Int}, ownE V L r = k → k ≠ 0 → ownD V L r = (0, 0) ∧ ownV V L r = V := fun h1 h2 => by rw [ownD, ownV, h1, if_neg h2, if_neg h2]; exact ⟨rfl, rfl⟩
  refine enterS F_p_hold_Queue_Own rfl rfl rfl ?_
  (refine sw_seq ?_; refine sw_region ?_)
  refine so_new rfl rfl rfl rfl rfl fun g4 => ?_
  refine so_ent (ent_keep 6 [1, 2, 3, 4, 5, 0] rfl rfl) ?_
  refine so_fact (fun w H => (H.oat (k := 1) rfl).form) ?_
  rintro ⟨A1, c1, rfl, _, _, k1⟩
  (refine so_1 rfl ?_; refine so_nil ?_; refine sn_then ?_; refine sw_seq ?_; refine sw_block ?_; refine sw_seq ?_; refine sw_region ?_; refine so_1 rfl ?_)
  refine so_callE rfl rfl rfl (none_H) ?_
  (refine so_1 rfl ?_; refine so_nil ?_; refine sn_then ?_; refine sw_cond_f rfl ?_; refine sw_seq ?_; refine sw_region ?_; (iterate 3 refine so_1 rfl ?_))
  by_cases hr1 : r < 1 ∨ (V.length : Int) < r
  · have hE : ownE V L r = 3 := by rw [ownE, if_pos hr1]
    obtain ⟨hD, hV'⟩ := e0 hE (by decide)
    have fin : (∃ v', stH gq gm (.slice A1 V.length c1) V h R H F = stH gq gm v' (ownV V L r) h R H F ∧ QI n (ownV V L r) L) := by rw [hV']; exact ⟨_, rfl, hq⟩
    by_cases h1 : r < 1
    · refine so_know 16 (.bool true) rfl (congrArg Value.bool (decide_eq_true h1)) ?_
      ((iterate 9 refine so_1 rfl ?_); refine so_nil ?_; refine sn_then ?_; refine sw_cond_t rfl ?_; refine sw_seq ?_; refine sw_region ?_; refine so_1 rfl ?_; refine so_s1 5 rfl rfl rfl rfl ?_; refine so_1 rfl ?_; refine so_nil ?_; refine sn_then ?_; refine sw_ret ?_; refine sn_block_ret ?_; refine sn_then_ret ?_)
      refine sn_ret rfl (.agg 5 rfl rfl rfl rfl rfl (.tmp rfl .nil)) (ent_keep 6 [0, 1, 2, 3, 4] rfl rfl) ?_
      exact ⟨by rw [hE, hD]; rfl, fin⟩
    · refine so_know 16 (.bool false) rfl (congrArg Value.bool (decide_eq_false h1)) ?_
      ((iterate 4 refine so_1 rfl ?_); refine so_l 0 rfl rfl rfl ?_; (iterate 4 refine so_1 rfl ?_); refine so_nil ?_; refine sn_then ?_)
      refine sw_know 13 (.bool true) rfl (congrArg Value.bool (decide_eq_true (by omega))) ?_
      (refine sw_cond_t rfl ?_; refine sw_seq ?_; refine sw_region ?_; refine so_1 rfl ?_; refine so_s1 5 rfl rfl rfl rfl ?_; refine so_1 rfl ?_; refine so_nil ?_; refine sn_then ?_; refine sw_ret ?_; refine sn_block_ret ?_; refine sn_then_ret ?_)
      refine sn_ret rfl (.agg 5 rfl rfl rfl rfl rfl (.tmp rfl .nil)) (ent_keep 6 [0, 1, 2, 3, 4] rfl rfl) ?_
      exact ⟨by rw [hE, hD]; rfl, fin⟩
  · refine so_know 16 (.bool false) rfl (congrArg Value.bool (decide_eq_false (by omega))) ?_
    ((iterate 4 refine so_1 rfl ?_); refine so_l 0 rfl rfl rfl ?_; (iterate 4 refine so_1 rfl ?_); refine so_nil ?_; refine sn_then ?_)
    refine sw_know 13 (.bool false) rfl (congrArg Value.bool (decide_eq_false (by omega))) ?_
    (refine sw_cond_f rfl ?_; refine sw_seq ?_; refine sw_region ?_; (iterate 3 refine so_1 rfl ?_); refine so_l 0 rfl rfl rfl ?_; refine so_1 rfl ?_; refine so_2 rfl (by (unfold I64; omega)) ?_)
    obtain ⟨k, hk⟩ : ∃ k : Nat, r - 1 = (k : Int) := ⟨(r - 1).toNat, by omega⟩
    have hkl : k < V.length := by omega
    have hkt : (r - 1).toNat = k := by omega
    obtain ⟨bk, off, rfl⟩ := k1 (by omega)
    have hvk := hq.num _ (List.getElem_mem hkl)
    have hat : atL V r = V[k] := by
      rw [atL, if_pos (by omega), hkt, nn_in hkl]; omega
    have hvk' : V[k] = atL V r := hat.symm
    (refine so_2 rfl (by omega) ?_)
    refine so_rd rfl (fun w H => ex_load rfl rfl rfl (by rw [mulz_eq, hkt, Nat.mul_one]; exact VL.at (vlZ (k := 1) rfl w H) k hkl)) rfl ?_
    rw [hvk'] at hvk ⊢
    ((iterate 2 refine so_1 rfl ?_); refine so_nil ?_; refine sn_then ?_)
    by_cases h3 : 1048576 ≤ atL V r
    · have hE : ownE V L r = 10 := by rw [ownE, if_neg hr1, if_pos h3]
      obtain ⟨hD, hV'⟩ := e0 hE (by decide)
      refine sw_know 26 (.bool true) rfl (congrArg Value.bool (decide_eq_true h3)) ?_
      (refine sw_cond_t rfl ?_; refine sw_seq ?_; refine sw_region ?_; refine so_1 rfl ?_; refine so_s1 5 rfl rfl rfl rfl ?_; refine so_1 rfl ?_; refine so_nil ?_; refine sn_then ?_; refine sw_ret ?_; refine sn_block_ret ?_; refine sn_then_ret ?_)
      refine sn_ret rfl (.agg 5 rfl rfl rfl rfl rfl (.tmp rfl .nil)) (ent_keep 6 [0, 1, 2, 3, 4] rfl rfl) ?_
      exact ⟨by rw [hE, hD]; rfl, by rw [hV']; exact ⟨_, rfl, hq⟩⟩
    · refine sw_know 26 (.bool false) rfl (congrArg Value.bool (decide_eq_false h3)) ?_
      (refine sw_cond_f rfl ?_; refine sw_skip ?_; refine sn_block ?_; refine sn_then ?_; refine sw_seq ?_; refine sw_region ?_; (iterate 3 refine so_1 rfl ?_); refine so_l 0 rfl rfl rfl ?_; refine so_1 rfl ?_)
      refine so_callE rfl rfl rfl (SC.ofExt fun w H => Next_spec_vector (vlZ (k := 1) rfl w H)) ?_
      have hnx : nextL V r = (r, atL V r + 1) := by rw [nextL, if_neg]; unfold capI; omega
      rw [hnx]
      skip
      refine so_new rfl rfl rfl rfl rfl fun g6 => ?_
      (refine so_s1 0 rfl rfl rfl rfl ?_; refine so_nil ?_; refine sn_then ?_; (iterate 2 refine sw_seq ?_))
      have hdok : dotOk (r, atL V r + 1) := ⟨(i64wf _).2 hr, (i64wf _).2 (by show I64 (atL V r + 1); unfold I64; omega)⟩
      refine sw_draw flo _ (by decide +kernel) (Ent.refl _) ?_
      ((iterate 3 refine sd_1 rfl (.inl rfl) ?_); refine sd_l 1 rfl rfl rfl rfl ?_; refine sd_l 0 rfl rfl rfl rfl ?_)
      cases hfw : findW (r, atL V r + 1) L with
      | some x =>
        obtain ⟨w, hw, hwd, hwx, hwg⟩ := hi.hit hq hfw
        have hE : ownE V L r = 19 := by rw [ownE, if_neg hr1, if_neg h3, hfw]; rfl
        obtain ⟨hD, hV'⟩ := e0 hE (by decide)
        refine sd_look1 4 dotMK hdok hwg rfl rfl rfl rfl rfl rfl rfl rfl rfl ?_
        ((iterate 5 refine sd_1 rfl (.inl rfl) ?_))
        refine sd_nil ?_
        (refine sn_then ?_; refine sw_seq ?_; refine sw_region ?_; refine so_1 rfl ?_; refine so_nil ?_; refine sn_then ?_; refine sw_cond_t rfl ?_; refine sw_seq ?_; refine sw_region ?_; refine so_1 rfl ?_; refine so_s1 6 rfl rfl rfl rfl ?_; refine so_1 rfl ?_; refine so_nil ?_; refine sn_then ?_; refine sw_ret ?_; refine sn_then_ret ?_)
        refine sn_ret rfl (.agg 6 rfl rfl rfl rfl rfl (.tmp rfl .nil)) (ent_keep 7 [1, 2, 3, 4, 5] rfl rfl) ?_
        exact ⟨by rw [hE, hD]; rfl, by rw [hV']; exact ⟨_, rfl, hq⟩⟩
      | none =>
        have hE : ownE V L r = 0 := by rw [ownE, if_neg hr1, if_neg h3, hfw]; rfl
        have hD : ownD V L r = (r, atL V r + 1) := by rw [ownD, if_pos hE]
        have hV' : ownV V L r = advV V r (atL V r + 1) := by rw [ownV, if_pos hE]
        refine sd_look0 4 dotMK hdok (hi.miss hfw) rfl rfl rfl rfl rfl rfl rfl rfl rfl ?_
        ((iterate 5 refine sd_1 rfl (.inl rfl) ?_))
        refine sd_nil ?_
        (refine sn_then ?_; refine sw_seq ?_; refine sw_region ?_; refine so_1 rfl ?_; refine so_nil ?_; refine sn_then ?_; refine sw_cond_f rfl ?_; refine sw_skip ?_; refine sn_then ?_; refine sw_seq ?_)
        refine sw_draw2 flo 7 _ [] rfl (by decide +kernel) (Ent.refl _) ?_
        ((iterate 4 refine sd_1 rfl (.inl rfl) ?_); refine sd_l 1 rfl rfl rfl rfl ?_; refine sd_l 0 rfl rfl rfl rfl ?_)
        refine sd_call rfl rfl rfl rfl (SC.ofMade fun w H => With_spec_vector (vlZ (k := 2) rfl w H) (by omega)) ?_
        rintro v2 _ rfl
        refine ⟨ent_keep 1 [] rfl rfl, ?_⟩
        refine sd_fact (fun w H => (H.oat (k := 0) rfl).form) ?_
        rintro ⟨A3, c3, rfl, _, _, _⟩
        skip
        refine sd_nil (sn_draw2 rfl (ent_nil _) ?_)
        ((iterate 2 refine sd_1 rfl (.inl rfl) ?_))
        refine sd_st 2 rfl rfl rfl rfl rfl rfl rfl rfl rfl rfl rfl (ent_nil _) ?_
        refine sd_nil ?_
        (refine sn_then ?_; refine sw_seq ?_; refine sw_region ?_; refine so_l 1 rfl rfl rfl ?_; refine so_s1 7 rfl rfl rfl rfl ?_; refine so_1 rfl ?_; refine so_nil ?_; refine sn_then ?_; refine sw_ret ?_)
        have h0 := atL_nonneg V r
        have hwl : withL V r (atL V r + 1) = advV V r (atL V r + 1) := withL_adv hq.num (by omega) (by omega) (by omega) (by omega) (by omega)
        rw [hwl]
        refine sn_ret rfl (.agg 7 rfl rfl rfl rfl rfl (.tmp rfl .nil)) (ent_keep 8 [2, 0, 4, 5, 6] rfl rfl) ?_
        refine ⟨by rw [hE, hD]; rfl, by
          rw [hV']
          refine ⟨_, rfl, hq.adv (by omega) (by omega) (by omega) (by omega) (List.Sublist.refl _) fun w hw hwr => ?_⟩
          have h6 := of_decide_eq_true (hq.fit w hw)
          have h7 : 1 ≤ w.e.r ∧ 1 ≤ w.e.n := ⟨h6.2.2.1, h6.2.2.2.2.1⟩
          have h8 := hq.new w hw
          simp only [hasL, decide_eq_true h7.1, decide_eq_true h7.2, Bool.true_and, decide_eq_false_iff_not] at h8
          rw [hwr] at h8
          have h9 : w.e.n ≠ atL V r + 1 := fun hc => findW_none hfw w hw (by rw [dotW, hwr, hc])
          omega⟩
theorem Own_Q {r : Int} (hr : I64 r) : SC Try.prog n_p_hold_Queue_Own [.pointer (some ⟨gq, 0, none⟩), .int .i64 r] b (que gq n V L :: F) (fun u F' =>
    u = .tuple ⟨[dotP (ownD V L r), .int .i64 (ownE V L r)]⟩ ∧ F' = que gq n (ownV V L r) L :: F) := by
  refine SC.opn ?_
  rintro ⟨gm, v, h, R, H⟩ ⟨hq, hi⟩
  dsimp only at hi
  refine (Own_S hr hq hi).out ?_
  rintro u _ ⟨h1, v', rfl, h2⟩
  exact ⟨_, ent_pack (G := fun s : Nat × Value × Value × List Wn × List Wn => stH gq s.1 s.2.1 (ownV V L r) s.2.2.1 s.2.2.2.1 s.2.2.2.2 []) (gm, v', h, R, H) ⟨h2, hi⟩, h1, rfl⟩
end
end Go.Proofs.Ytgkhflcpbjlmiaa
/- Queues, part twenty-four: the document's queue: New, vector, fits, place, Holds. Conditions: not too many. -/
namespace Go.Proofs.Ytgkhflcpbjlmiaa
open Go.Eng Go.RowKit Go.WideMaps Go.Heap

abbrev stW (gw : Nat) (v l : Value) (V : List Int) (M : List Wn) (F : List SP) : List SP := pt gw t_entrepotref21_Queue [v, l] :: rZ v V :: rWs l M :: all (wsF M) :: F
/-- The document's queue, its innards hidden. -/
def rqu (gw n : Nat) (V : List Int) (L : List Wn) : SP :=
  exP (S := Value × Value × List Wn) (fun s => QI n V L ∧ s.2.2.map nW = L) fun s => stW gw s.1 s.2.1 V s.2.2 []
theorem QI.start {n : Nat} (h1 : 1 ≤ n) (h2 : n ≤ 16) : QI n (List.replicate n 0) [] where
  n1 := h1
  n2 := h2
  len := List.length_replicate
  num := fun x hx => by rw [(List.mem_replicate.1 hx).2]; omega
  nd := List.nodup_nil
  fit := fun w hw => by simp at hw
  new := fun w hw => by simp at hw
  ew := fun w hw => by simp at hw
  rf := fun w hw => by simp at hw
  many := by simp
  nrm := fun w hw => by simp at hw
  so := .nil
section
variable {b : World} {F : List SP} {gw n : Nat} {V : List Int} {L M : List Wn} {e : Ev} {s : Int} {d : Int × Int}
theorem New_Q {n : Nat} (h1 : 1 ≤ n) (h2 : n ≤ 16) : SC Try.prog n_hold_New [.int .i64 n] b F (fun x F' => ∃ gq, x = .tuple ⟨[.pointer (some ⟨gq, 0, none⟩), .int .i64 0]⟩ ∧ F' = que gq n (List.replicate n 0) [] :: F) := by
  refine (New_H h1 h2).out ?_
  rintro u _ ⟨gq, gm, v, rfl, rfl⟩
  exact ⟨_, ent_pack (G := fun s : Nat × Value × Value × List Wn × List Wn => stH gq s.1 s.2.1 (List.replicate n 0) s.2.2.1 s.2.2.2.1 s.2.2.2.2 []) (gm, v, .slice none 0 0, [], []) ⟨QI.start h1 h2, .refl _, fun i _ h => by simp at h, .refl _⟩, gq, rfl, rfl⟩
theorem rNew_bad {n : Int} (hn : n < 1 ∨ 16 < n) : SC Try.prog n_entrepotref21_New [.int .i64 n] b F (fun x F' => x = .tuple ⟨[.pointer none, .int .i64 3]⟩ ∧ F' = F) := by
  refine enterS F_entrepotref21_New rfl rfl rfl ?_
  (refine sw_seq ?_; refine sw_region ?_; (iterate 2 refine so_1 rfl ?_); refine so_nil ?_; refine sn_then ?_; (iterate 2 refine sw_seq ?_); refine sw_region ?_; (iterate 3 refine so_1 rfl ?_))
  refine so_if 6 rfl (fun h1 => ?_) (fun h1 => ?_)
  · ((iterate 3 refine so_1 rfl ?_); refine so_nil ?_; refine sn_then ?_; refine sw_cond_t rfl ?_; refine sw_seq ?_; refine sw_region ?_; (iterate 2 refine so_1 rfl ?_); refine so_nil ?_; refine sn_then ?_; refine sw_ret ?_; refine sn_then_ret ?_)
    refine sn_ret rfl (.tmp rfl (.tmp rfl .nil)) (Ent.refl _) ?_
    exact ⟨rfl, rfl⟩
  · ((iterate 3 refine so_1 rfl ?_); refine so_nil ?_; refine sn_then ?_)
    refine sw_if rfl (fun h2 => ?_) (fun h2 => ?_)
    · (refine sw_seq ?_; refine sw_region ?_; (iterate 2 refine so_1 rfl ?_); refine so_nil ?_; refine sn_then ?_; refine sw_ret ?_; refine sn_then_ret ?_)
      refine sn_ret rfl (.tmp rfl (.tmp rfl .nil)) (Ent.refl _) ?_
      exact ⟨rfl, rfl⟩
    · omega
theorem rNew_Q {n : Nat} (h1 : 1 ≤ n) (h2 : n ≤ 16) : SC Try.prog n_entrepotref21_New [.int .i64 n] b F (fun x F' => ∃ gw, x = .tuple ⟨[.pointer (some ⟨gw, 0, none⟩), .int .i64 0]⟩ ∧ F' = rqu gw n (List.replicate n 0) [] :: F) := by
  refine SC.out (R := fun x F' => ∃ gw v, x = .tuple ⟨[.pointer (some ⟨gw, 0, none⟩), .int .i64 0]⟩ ∧ F' = stW gw v (.slice none 0 0) (List.replicate n 0) [] F) ?_ ?_
  · refine enterS F_entrepotref21_New rfl rfl rfl ?_
    (refine sw_seq ?_; refine sw_region ?_; (iterate 2 refine so_1 rfl ?_); refine so_nil ?_; refine sn_then ?_; (iterate 2 refine sw_seq ?_); refine sw_region ?_; (iterate 3 refine so_1 rfl ?_))
    refine so_if 6 rfl (fun h => by omega) (fun _ => ?_)
    ((iterate 3 refine so_1 rfl ?_); refine so_nil ?_; refine sn_then ?_)
    refine sw_if rfl (fun h => by omega) (fun _ => ?_)
    (refine sw_skip ?_; refine sn_then ?_; refine sw_seq ?_; refine sw_region ?_; refine so_1 rfl ?_)
    refine so_make (sz := 1) (n := n) (cs := ints (List.replicate n 0)) rfl rfl rfl rfl rfl rfl rfl rfl rfl (by omega) (by rw [ints, List.map_replicate]; exact made_one _ _) fun g => ?_
    refine so_ent (G := rZ (.slice (some ⟨g, 0, none⟩) n n) (List.replicate n 0) :: F) (by simp only [rZ, List.length_replicate]; exact Ent.refl _) ?_
    (refine so_1 rfl ?_)
    refine so_box rfl rfl rfl rfl rfl fun gw => ?_
    ((iterate 2 refine so_1 rfl ?_); refine so_nil ?_; refine sn_then ?_; refine sw_ret ?_)
    refine sn_ret rfl (.tmp rfl (.tmp rfl .nil)) (((ent_close (G := [])).trans (ent_row_nil t_api_Waiting 40 rfl)).trans (ent_keep 4 [2, 3, 0, 1] rfl rfl)) ?_
    exact ⟨gw, _, rfl, rfl⟩
  · rintro u _ ⟨gw, v, rfl, rfl⟩
    exact ⟨_, ent_pack (G := fun s : Value × Value × List Wn => stW gw s.1 s.2.1 (List.replicate n 0) s.2.2 []) (v, .slice none 0 0, []) ⟨QI.start h1 h2, rfl⟩, gw, rfl, rfl⟩
theorem vector_S {va : Value} {xs : List Int} {n : Nat} (ha : ∀ w, Sat b F w → VL (Value.int .i64) w va xs) (hn : n ≤ 1000000) : SC Try.prog n_entrepotref21_vector [va, .int .i64 n] b F (fun v F' => v = .bool (decide (xs.length = n) && decide (numOk xs)) ∧ F' = F) := by
  refine enterS F_entrepotref21_vector rfl rfl rfl ?_
  refine sw_fact (fun w H => (ha w H).form) ?_
  rintro ⟨A, c, rfl, h1, h2, h3, h4⟩
  (refine sw_seq ?_; refine sw_region ?_; refine so_1 rfl ?_; refine so_nil ?_; refine sn_then ?_; (iterate 2 refine sw_seq ?_); refine sw_region ?_; (iterate 4 refine so_1 rfl ?_); refine so_nil ?_; refine sn_then ?_)
  by_cases h : xs.length = n
  rotate_left
  · refine sw_know 9 (.bool true) rfl (by simp; omega) ?_
    (refine sw_cond_t rfl ?_; refine sw_seq ?_; refine sw_region ?_; refine so_1 rfl ?_; refine so_nil ?_; refine sn_then ?_; refine sw_ret ?_; refine sn_then_ret ?_)
    refine sn_ret rfl (.tmp rfl .nil) (Ent.refl _) ?_
    exact ⟨congrArg Value.bool (by simp [h]), rfl⟩
  refine sw_know 9 (.bool false) rfl (by simp; omega) ?_
  (refine sw_cond_f rfl ?_; refine sw_skip ?_; refine sn_then ?_; (iterate 2 refine sw_seq ?_); refine sw_region ?_; refine so_1 rfl ?_; refine so_nil ?_; refine sn_then ?_; refine sw_block ?_)
  refine sw_loop (S := Nat) (fun i => [(0, .slice A xs.length c), (1, .int .i64 n), (5, .int .i64 (i : Int))]) (fun _ => F) (fun i => i ≤ xs.length ∧ ∀ k (hk : k < xs.length), k < i → 0 ≤ xs[k] ∧ xs[k] ≤ 1048576) (fun i => xs.length - i) 0 ⟨rfl, rfl, rfl, trivial⟩ (Ent.refl _) ⟨Nat.zero_le _, fun k _ h => absurd h (Nat.not_lt_zero k)⟩ ?_
  rintro i ⟨hi, hk⟩
  ((iterate 2 refine sw_seq ?_); refine sw_region ?_; (iterate 3 refine so_1 rfl ?_); refine so_nil ?_; refine sn_then ?_)
  refine sw_if rfl (fun g1 => ?_) (fun g1 => ?_)
  · have h' : i < xs.length := by omega
    obtain ⟨bk, off, rfl⟩ := h4 (by omega)
    have hcell : ∀ w, Sat b F w → w.cell? ⟨bk, off + mulz ((i : Int)).toNat 1, none⟩ = some (.int .i64 xs[i]) := fun w H => by rw [mulz_eq]; simpa using VL.at (ha w H) i h'
    have hmem := List.getElem_mem h'
    have hnx : (0 ≤ xs[i] ∧ xs[i] ≤ 1048576) → ∀ k (hk : k < xs.length), k < i + 1 → 0 ≤ xs[k] ∧ xs[k] ≤ 1048576 := fun h k hk' hlt => by
      by_cases e : k = i
      · subst e; exact h
      · exact hk k hk' (by omega)
    generalize xs[i] = x at *
    (refine sw_skip ?_; refine sn_then ?_; refine sw_seq ?_; refine sw_block ?_; refine sw_seq ?_; refine sw_region ?_; (iterate 2 refine so_1 rfl ?_); refine so_2 rfl (by omega) ?_)
    refine so_rd rfl (fun w H => ex_load rfl rfl rfl (hcell w H)) rfl ?_
    ((iterate 2 refine so_1 rfl ?_))
    have no : ¬ (0 ≤ x ∧ x ≤ 1048576) → (decide (xs.length = n) && decide (numOk xs)) = false := fun hx => by
      rw [decide_eq_false (p := numOk xs) fun hc => hx (hc x hmem)]; simp
    by_cases hx : x < 0
    · refine so_know 20 (.bool true) rfl (congrArg Value.bool (decide_eq_true hx)) ?_
      ((iterate 6 refine so_1 rfl ?_); refine so_nil ?_; refine sn_then ?_; refine sw_cond_t rfl ?_; refine sw_seq ?_; refine sw_region ?_; refine so_1 rfl ?_; refine so_nil ?_; refine sn_then ?_; refine sw_ret ?_; refine sn_block_ret ?_; refine sn_then_ret ?_; refine sn_loop_ret ?_; refine sn_block_ret ?_; refine sn_then_ret ?_)
      refine sn_ret rfl (.tmp rfl .nil) (Ent.refl _) ?_
      exact ⟨congrArg Value.bool (no (by omega)).symm, rfl⟩
    · refine so_know 20 (.bool false) rfl (congrArg Value.bool (decide_eq_false hx)) ?_
      ((iterate 2 refine so_1 rfl ?_); refine so_2 rfl (by omega) ?_)
      refine so_rd rfl (fun w H => ex_load rfl rfl rfl (hcell w H)) rfl ?_
      ((iterate 2 refine so_1 rfl ?_); refine so_nil ?_; refine sn_then ?_)
      by_cases hx2 : 1048576 < x
      · refine sw_know 26 (.bool true) rfl (congrArg Value.bool (decide_eq_true hx2)) ?_
        (refine sw_cond_t rfl ?_; refine sw_seq ?_; refine sw_region ?_; refine so_1 rfl ?_; refine so_nil ?_; refine sn_then ?_; refine sw_ret ?_; refine sn_block_ret ?_; refine sn_then_ret ?_; refine sn_loop_ret ?_; refine sn_block_ret ?_; refine sn_then_ret ?_)
        refine sn_ret rfl (.tmp rfl .nil) (Ent.refl _) ?_
        exact ⟨congrArg Value.bool (no (by omega)).symm, rfl⟩
      · refine sw_know 26 (.bool false) rfl (congrArg Value.bool (decide_eq_false hx2)) ?_
        (refine sw_cond_f rfl ?_; refine sw_skip ?_; refine sn_block ?_; refine sn_then ?_; refine sw_region ?_; refine so_1 rfl ?_; refine so_2 rfl (by (unfold I64; omega)) ?_; refine so_1 rfl ?_; refine so_nil ?_)
        refine sn_round (i + 1) ⟨rfl, rfl, rfl, trivial⟩ (Ent.refl _) ⟨h', hnx (by omega)⟩ ?_
        show xs.length - (i + 1) < xs.length - i
        omega
  · (refine sw_exit ?_; refine sn_then_exit ?_; refine sn_loop_exit ?_; refine sn_block_exit ?_; refine sn_then ?_; refine sw_seq ?_; refine sw_region ?_; refine so_1 rfl ?_; refine so_nil ?_; refine sn_then ?_; refine sw_ret ?_)
    refine sn_ret rfl (.tmp rfl .nil) (Ent.refl _) ?_
    have hok : numOk xs := fun x hx => by
      obtain ⟨k, hkk, rfl⟩ := List.mem_iff_getElem.1 hx
      exact hk k hkk (by omega)
    exact ⟨congrArg Value.bool (by simp [h, hok]), rfl⟩
set_option maxRecDepth 20000 in
set_option maxHeartbeats 4000000 in
theorem rfits_S {n : Nat} (he : ∀ w, Sat b F w → VL (Value.int .i64) w e.dv e.deps) (hn : n ≤ 1000000) :
    SC Try.prog n_entrepotref21_fits [evV e, .int .i64 s, .int .i64 n] b F (fun u F' => u = .bool (fitsB n e s) ∧ F' = F) := by
  refine enterS F_entrepotref21_fits rfl rfl rfl ?_
  refine sw_fact (fun w H => (he w H).form) ?_
  rintro ⟨A2, c2, hv2, k1, k2, k3, k4⟩
  (refine sw_seq ?_; refine sw_region ?_)
  refine so_box rfl rfl rfl rfl rfl fun g3 => ?_
  (refine so_1 rfl ?_; refine so_nil ?_; refine sn_then ?_; refine sw_seq ?_)
  refine sw_draw flo _ (by decide +kernel) (Ent.refl _) ?_
  have no : ∀ (hf : ¬ (1 ≤ s ∧ s ≤ n ∧ 1 ≤ e.r ∧ e.r ≤ n ∧ 1 ≤ e.n ∧ e.n ≤ 1048576 ∧ e.deps.length = n ∧ numOk e.deps ∧ e.deps.getD (e.r - 1).toNat 0 = e.n - 1)), false = fitsB n e s := fun hf => (decide_eq_false hf).symm
  ((iterate 3 refine sd_1 rfl (.inl rfl) ?_))
  by_cases d0 : 1 ≤ s
  rotate_left
  · refine sd_know 9 (.bool false) rfl (by simp; omega) ?_
    ((iterate 33 refine sd_1 rfl (.inl rfl) ?_); refine sd_1 rfl (.inr rfl) ?_; (iterate 17 refine sd_1 rfl (.inl rfl) ?_))
    refine sd_nil ?_
    (refine sn_then ?_; refine sw_ret ?_)
    refine sn_ret rfl (.tmp rfl .nil) (ent_keep 1 [] rfl rfl) ?_
    exact ⟨congrArg Value.bool (no fun hh => by omega), rfl⟩
  refine sd_know 9 (.bool true) rfl (by simp; omega) ?_
  ((iterate 5 refine sd_1 rfl (.inl rfl) ?_))
  by_cases d1 : s ≤ (n : Int)
  rotate_left
  · refine sd_know 14 (.bool false) rfl (by simp; omega) ?_
    ((iterate 28 refine sd_1 rfl (.inl rfl) ?_); refine sd_1 rfl (.inr rfl) ?_; (iterate 17 refine sd_1 rfl (.inl rfl) ?_))
    refine sd_nil ?_
    (refine sn_then ?_; refine sw_ret ?_)
    refine sn_ret rfl (.tmp rfl .nil) (ent_keep 1 [] rfl rfl) ?_
    exact ⟨congrArg Value.bool (no fun hh => by omega), rfl⟩
  refine sd_know 14 (.bool true) rfl (by simp; omega) ?_
  ((iterate 2 refine sd_1 rfl (.inl rfl) ?_); refine sd_l 0 rfl rfl rfl rfl ?_; (iterate 3 refine sd_1 rfl (.inl rfl) ?_))
  by_cases d2 : 1 ≤ e.r
  rotate_left
  · refine sd_know 20 (.bool false) rfl (by simp; omega) ?_
    ((iterate 22 refine sd_1 rfl (.inl rfl) ?_); refine sd_1 rfl (.inr rfl) ?_; (iterate 17 refine sd_1 rfl (.inl rfl) ?_))
    refine sd_nil ?_
    (refine sn_then ?_; refine sw_ret ?_)
    refine sn_ret rfl (.tmp rfl .nil) (ent_keep 1 [] rfl rfl) ?_
    exact ⟨congrArg Value.bool (no fun hh => by omega), rfl⟩
  refine sd_know 20 (.bool true) rfl (by simp; omega) ?_
  ((iterate 2 refine sd_1 rfl (.inl rfl) ?_); refine sd_l 0 rfl rfl rfl rfl ?_; (iterate 4 refine sd_1 rfl (.inl rfl) ?_))
  by_cases d3 : e.r ≤ (n : Int)
  rotate_left
  · refine sd_know 27 (.bool false) rfl (by simp; omega) ?_
    ((iterate 15 refine sd_1 rfl (.inl rfl) ?_); refine sd_1 rfl (.inr rfl) ?_; (iterate 17 refine sd_1 rfl (.inl rfl) ?_))
    refine sd_nil ?_
    (refine sn_then ?_; refine sw_ret ?_)
    refine sn_ret rfl (.tmp rfl .nil) (ent_keep 1 [] rfl rfl) ?_
    exact ⟨congrArg Value.bool (no fun hh => by omega), rfl⟩
  refine sd_know 27 (.bool true) rfl (by simp; omega) ?_
  ((iterate 2 refine sd_1 rfl (.inl rfl) ?_); refine sd_l 0 rfl rfl rfl rfl ?_; (iterate 3 refine sd_1 rfl (.inl rfl) ?_))
  by_cases d4 : 1 ≤ e.n
  rotate_left
  · refine sd_know 33 (.bool false) rfl (by simp; omega) ?_
    ((iterate 9 refine sd_1 rfl (.inl rfl) ?_); refine sd_1 rfl (.inr rfl) ?_; (iterate 17 refine sd_1 rfl (.inl rfl) ?_))
    refine sd_nil ?_
    (refine sn_then ?_; refine sw_ret ?_)
    refine sn_ret rfl (.tmp rfl .nil) (ent_keep 1 [] rfl rfl) ?_
    exact ⟨congrArg Value.bool (no fun hh => by omega), rfl⟩
  refine sd_know 33 (.bool true) rfl (by simp; omega) ?_
  ((iterate 2 refine sd_1 rfl (.inl rfl) ?_); refine sd_l 0 rfl rfl rfl rfl ?_; (iterate 3 refine sd_1 rfl (.inl rfl) ?_))
  by_cases d5 : e.n ≤ 1048576
  rotate_left
  · refine sd_know 39 (.bool false) rfl (by simp; omega) ?_
    ((iterate 3 refine sd_1 rfl (.inl rfl) ?_); refine sd_1 rfl (.inr rfl) ?_; (iterate 17 refine sd_1 rfl (.inl rfl) ?_))
    refine sd_nil ?_
    (refine sn_then ?_; refine sw_ret ?_)
    refine sn_ret rfl (.tmp rfl .nil) (ent_keep 1 [] rfl rfl) ?_
    exact ⟨congrArg Value.bool (no fun hh => by omega), rfl⟩
  refine sd_know 39 (.bool true) rfl (by simp; omega) ?_
  (refine sd_1 rfl (.inl rfl) ?_; refine sd_l 0 rfl rfl rfl rfl ?_; refine sd_1 rfl (.inl rfl) ?_)
  refine sd_callE rfl rfl rfl rfl (vector_S (up he (ent_keep 1 [] rfl rfl)) hn) (Ent.refl _) ?_
  ((iterate 2 refine sd_1 rfl (.inl rfl) ?_))
  by_cases d6 : e.deps.length = n ∧ numOk e.deps
  rotate_left
  · refine sd_know 45 (.bool false) rfl (congrArg Value.bool (by simpa using d6)) ?_
    ((iterate 15 refine sd_1 rfl (.inl rfl) ?_))
    refine sd_nil ?_
    (refine sn_then ?_; refine sw_ret ?_)
    refine sn_ret rfl (.tmp rfl .nil) (ent_keep 1 [] rfl rfl) ?_
    exact ⟨congrArg Value.bool (no fun hh => d6 ⟨hh.2.2.2.2.2.2.1, hh.2.2.2.2.2.2.2.1⟩), rfl⟩
  refine sd_know 45 (.bool true) rfl (congrArg Value.bool (by simpa using d6)) ?_
  (refine sd_1 rfl (.inl rfl) ?_; refine sd_l 0 rfl rfl rfl rfl ?_; (iterate 2 refine sd_1 rfl (.inl rfl) ?_); refine sd_l 0 rfl rfl rfl rfl ?_; refine sd_2 rfl rfl (by (unfold I64; omega)) ?_)
  obtain ⟨d7, d8⟩ := d6
  obtain ⟨k, hk⟩ : ∃ k : Nat, e.r - 1 = (k : Int) := ⟨(e.r - 1).toNat, by omega⟩
  have hkl : k < e.deps.length := by omega
  obtain ⟨bk, off, rfl⟩ := k4 (by omega)
  have hg : e.deps.getD (e.r - 1).toNat 0 = e.deps[k] := by rw [show (e.r - 1).toNat = k by omega, List.getD_eq_getElem?_getD, List.getElem?_eq_getElem hkl]; rfl
  have he2 : ∀ w, Sat b (pt g3 t_api_Event (evC e) :: F) w → VL (Value.int .i64) w (.slice (some ⟨bk, off, none⟩) e.deps.length c2) e.deps := fun w H => hv2 ▸ up he (ent_keep 1 [] rfl rfl) w H
  refine sd_know 47 (.slice (some ⟨bk, off, none⟩) e.deps.length c2) rfl hv2 ?_
  (refine sd_2 rfl rfl (by omega) ?_)
  refine sd_rd rfl (fun w H => ex_load rfl rfl rfl (by rw [mulz_eq, show (e.r - 1).toNat = k by omega, Nat.mul_one]; exact VL.at (he2 w H) k hkl)) rfl rfl ?_
  ((iterate 2 refine sd_1 rfl (.inl rfl) ?_); refine sd_l 0 rfl rfl rfl rfl ?_; refine sd_2 rfl rfl (by (unfold I64; omega)) ?_; (iterate 3 refine sd_1 rfl (.inl rfl) ?_))
  refine sd_nil ?_
  (refine sn_then ?_; refine sw_ret ?_)
  refine sn_ret rfl (.tmp rfl .nil) (ent_keep 1 [] rfl rfl) ?_
  refine ⟨congrArg Value.bool ?_, rfl⟩
  rw [fitsB, hg]
  simp [d0, d1, d2, d3, d4, d5, d7, d8]
/-- A queue's cells. -/
theorem M_cell {k : Nat} {A : Option Addr} {bk off c n i j : Nat} (hA : A = some ⟨bk, off, none⟩) (hk : nth F k = some (rWn A c n M)) (hn : M.length = n) (h32 : ∀ m ∈ M, m.e.id.length = 32) (hi : i < M.length) (hj : j < 40) : ∀ w, Sat b F w → w.cell? ⟨bk, off + i * 40 + j, none⟩ = (waC M[i])[j]? := fun w H => by
  subst hA; subst hn
  exact fl_cell (H.oat hk).sl (wa_len h32) hi hj
theorem idx_lt {i : Nat} : ((i : Int)).toNat = i := Int.toNat_natCast i
set_option maxHeartbeats 2000000 in
theorem place_S {v l : Value} (h32 : ∀ m ∈ M, m.e.id.length = 32) (hm : M.length ≤ 100000) :
    SC Try.prog n_p_entrepotref21_Queue_place [.pointer (some ⟨gw, 0, none⟩), dotP d] b (stW gw v l V M F) (fun u F' => ((∀ x ∈ M, dotW x ≠ d) ∧ u = .int .i64 (-1) ∨ ∃ (k : Nat) (hk : k < M.length), u = .int .i64 k ∧ dotW M[k] = d) ∧ F' = stW gw v l V M F) := by
  refine enterS F_p_entrepotref21_Queue_place rfl rfl rfl ?_
  refine sw_fact (fun w H => (H.oat (k := 2) rfl).form) ?_
  rintro ⟨A, c, rfl, _, _, k4⟩
  (refine sw_seq ?_; refine sw_region ?_)
  refine so_box rfl rfl rfl rfl rfl fun g3 => ?_
  (refine so_1 rfl ?_; refine so_nil ?_; refine sn_then ?_; (iterate 2 refine sw_seq ?_); refine sw_region ?_; refine so_1 rfl ?_; refine so_nil ?_; refine sn_then ?_; refine sw_block ?_)
  refine sw_loop (S := Nat) (fun i => [(0, .pointer (some ⟨gw, 0, none⟩)), (3, .pointer (some ⟨g3, 0, none⟩)), (5, .int .i64 (i : Int))]) (fun _ => pt g3 t_api_Dot [.int .i64 d.1, .int .i64 d.2] :: stW gw v (.slice A M.length c) V M F) (fun i => i ≤ M.length ∧ ∀ k (hk : k < M.length), k < i → dotW M[k] ≠ d) (fun i => M.length - i) 0 ⟨rfl, rfl, rfl, trivial⟩ (Ent.refl _) ⟨Nat.zero_le _, fun k _ h => absurd h (Nat.not_lt_zero k)⟩ ?_
  rintro i ⟨hi, hk⟩
  ((iterate 2 refine sw_seq ?_); refine sw_region ?_; (iterate 4 refine so_1 rfl ?_); refine so_l 1 rfl rfl rfl ?_; (iterate 2 refine so_1 rfl ?_); refine so_nil ?_; refine sn_then ?_)
  refine sw_if rfl (fun g1 => ?_) (fun g1 => ?_)
  · have h' : i < M.length := by omega
    obtain ⟨bk, off, rfl⟩ := k4 (by omega)
    have hc : ∀ w, Sat b (pt g3 t_api_Dot [.int .i64 d.1, .int .i64 d.2] :: stW gw v (.slice (some ⟨bk, off, none⟩) M.length c) V M F) w → ∀ j, j < 40 → w.cell? ⟨bk, off + i * 40 + j, none⟩ = (waC M[i])[j]? := fun w H j hj => M_cell (k := 3) rfl rfl rfl h32 h' hj w H
    have hnx : dotW M[i] ≠ d → ∀ k (hk : k < M.length), k < i + 1 → dotW M[k] ≠ d := fun h k hk' hlt => by
      by_cases e : k = i
      · subst e; exact h
      · exact hk k hk' (by omega)
    have hx0 : M[i] = M[i] := rfl
    generalize hxd : M[i] = x at hc hnx
    (refine sw_skip ?_; refine sn_then ?_; refine sw_seq ?_; refine sw_block ?_; refine sw_seq ?_)
    refine sw_draw flo _ (by decide +kernel) (Ent.refl _) ?_
    ((iterate 3 refine sd_1 rfl (.inl rfl) ?_); refine sd_l 1 rfl rfl rfl rfl ?_; refine sd_1 rfl (.inl rfl) ?_; refine sd_2 rfl rfl (by omega) ?_; (iterate 2 refine sd_1 rfl (.inl rfl) ?_))
    refine sd_rd rfl (fun w H => ex_loadN (cs := [.int .i64 x.e.r, .int .i64 x.e.n]) rfl rfl rfl rfl (fun j hj => by
      rw [mulz_eq, idx_lt]
      rcases j with _ | _ | j
      · exact (hc w H 0 (by omega)).trans rfl
      · exact (hc w H 1 (by omega)).trans rfl
      · simp only [List.length_cons, List.length_nil] at hj; omega)) rfl rfl ?_
    (refine sd_l 0 rfl rfl rfl rfl ?_)
    refine sd_pu rfl (pu_eqA rfl rfl (eq_dot _ _ _ _)) rfl rfl ?_
    refine sd_nil ?_
    by_cases hd : dotW x = d
    · have h3 : x.e.r = d.1 ∧ x.e.n = d.2 := ⟨congrArg Prod.fst hd, congrArg Prod.snd hd⟩
      (refine sn_then ?_)
      refine sw_know 25 (.bool true) rfl (congrArg Value.bool (decide_eq_true h3)) ?_
      (refine sw_cond_t rfl ?_; refine sw_seq ?_; refine sw_region ?_; (iterate 2 refine so_1 rfl ?_); refine so_nil ?_; refine sn_then ?_; refine sw_ret ?_; refine sn_block_ret ?_; refine sn_then_ret ?_; refine sn_loop_ret ?_; refine sn_block_ret ?_; refine sn_then_ret ?_)
      refine sn_ret rfl (.tmp rfl .nil) (ent_keep 1 [] rfl rfl) ?_
      exact ⟨.inr ⟨i, h', rfl, by rw [hxd]; exact hd⟩, rfl⟩
    · have h3 : ¬ (x.e.r = d.1 ∧ x.e.n = d.2) := fun hc => hd (Prod.ext hc.1 hc.2)
      (refine sn_then ?_)
      refine sw_know 25 (.bool false) rfl (congrArg Value.bool (decide_eq_false h3)) ?_
      (refine sw_cond_f rfl ?_; refine sw_skip ?_; refine sn_block ?_; refine sn_then ?_; refine sw_region ?_; refine so_1 rfl ?_; refine so_2 rfl (by (unfold I64; omega)) ?_; refine so_1 rfl ?_; refine so_nil ?_)
      refine sn_round (i + 1) ⟨rfl, rfl, rfl, trivial⟩ (Ent.refl _) ⟨h', hnx hd⟩ ?_
      show M.length - (i + 1) < M.length - i
      omega
  · (refine sw_exit ?_; refine sn_then_exit ?_; refine sn_loop_exit ?_; refine sn_block_exit ?_; refine sn_then ?_; refine sw_seq ?_; refine sw_region ?_; refine so_1 rfl ?_; refine so_nil ?_; refine sn_then ?_; refine sw_ret ?_)
    refine sn_ret rfl (.tmp rfl .nil) (ent_keep 1 [] rfl rfl) ?_
    refine ⟨.inl ⟨fun x hx => ?_, rfl⟩, rfl⟩
    obtain ⟨k, hkk, rfl⟩ := List.mem_iff_getElem.1 hx
    exact hk k hkk (by omega)
end
end Go.Proofs.Ytgkhflcpbjlmiaa
/- Queues, part twenty-five: the document's queue: Holds, Held, Ripe. Conditions: not too many. -/
namespace Go.Proofs.Ytgkhflcpbjlmiaa
open Go.Eng Go.RowKit Go.WideMaps Go.Heap

theorem splO_front {l l' : List Value} (m : List Value) (h : l'.length = l.length) : splO (l ++ m) 0 l' = some (l' ++ m) := by
  induction l generalizing l' with
  | nil =>
    obtain rfl : l' = [] := List.eq_nil_of_length_eq_zero h
    cases m <;> rfl
  | cons a l ih =>
    cases l' with
    | nil => simp at h
    | cons c l' => simp only [List.cons_append, splO, ih (by simpa using h)]
theorem wsC_ev {e : Ev} {s : Int} (h : e.id.length = 32) : segO (wsC e s) 0 39 = some (evC e) := segO_front _ (evC_len h)
structure MI2 (n : Nat) (V : List Int) (M : List Wn) : Prop where
  q : QI n V (M.map nW)
section
variable {b : World} {F : List SP} {gw n : Nat} {V : List Int} {L M : List Wn} {e : Ev} {s : Int} {d : Int × Int}
theorem QI.m32 (hq : QI n V (M.map nW)) : ∀ m ∈ M, m.e.id.length = 32 := fun m hm => hq.i32 (nW m) (List.mem_map.2 ⟨m, hm, rfl⟩)
theorem QI.mlen (hq : QI n V (M.map nW)) : M.length ≤ 100000 := by have := hq.many; rwa [List.length_map] at this
theorem QI.md (hq : QI n V (M.map nW)) {m : Wn} (hm : m ∈ M) : m.e.deps.length ≤ 1000000 ∧ m.e.refs.length ≤ 1000000 := by
  have h1 := of_decide_eq_true (hq.fit (nW m) (List.mem_map.2 ⟨m, hm, rfl⟩))
  have h7 : m.e.deps.length = n := h1.2.2.2.2.2.2.1
  have h16 := hq.n2
  exact ⟨by omega, hq.rf (nW m) (List.mem_map.2 ⟨m, hm, rfl⟩)⟩
theorem QI.mnd (hq : QI n V (M.map nW)) : (M.map dotW).Nodup := by
  have := hq.nd
  rw [List.map_map] at this; exact this
set_option maxRecDepth 20000 in
set_option maxHeartbeats 4000000 in
theorem rHolds_S {v l : Value} (hq : QI n V (M.map nW)) : SC Try.prog n_p_entrepotref21_Queue_Holds [.pointer (some ⟨gw, 0, none⟩), dotP d] b (stW gw v l V M F) (fun u F' =>
    ((∀ x ∈ M, dotW x ≠ d) ∧ u = .tuple ⟨[.agg ⟨wsC ev0 0⟩, .bool false]⟩ ∧ F' = stW gw v l V M F) ∨ ∃ x ∈ M, ∃ dv rv, dotW x = d ∧ u = .tuple ⟨[.agg ⟨wsC (x.e.own dv rv) x.src⟩, .bool true]⟩ ∧ F' = rZ dv x.e.deps :: rD rv x.e.refs :: stW gw v l V M F) := by
  refine enterS F_p_entrepotref21_Queue_Holds rfl rfl rfl ?_
  refine sw_fact (fun w H => (H.oat (k := 2) rfl).form) ?_
  rintro ⟨A, c, rfl, _, _, k4⟩
  (refine sw_seq ?_; refine sw_region ?_)
  refine so_box rfl rfl rfl rfl rfl fun g3 => ?_
  skip
  refine so_new rfl rfl rfl rfl rfl fun g4 => ?_
  refine so_ent (ent_keep 6 [2, 3, 4, 5, 0, 1] rfl rfl) ?_
  (refine so_1 rfl ?_; refine so_nil ?_; refine sn_then ?_; refine sw_seq ?_; refine sw_region ?_; refine so_1 rfl ?_; refine so_l 5 rfl rfl rfl ?_)
  refine so_call rfl rfl rfl (place_S (d := d) (hq.m32) hq.mlen) ?_
  rintro _ _ ⟨⟨hno, rfl⟩ | ⟨k, hk, rfl, hkd⟩, rfl⟩
  · (refine so_1 rfl ?_; refine so_nil ?_; refine sn_then ?_; (iterate 2 refine sw_seq ?_); refine sw_region ?_; (iterate 2 refine so_1 rfl ?_); refine so_nil ?_; refine sn_then ?_; refine sw_cond_t rfl ?_; refine sw_seq ?_; refine sw_region ?_; refine so_1 rfl ?_; refine so_s1 4 rfl rfl rfl rfl ?_; refine so_1 rfl ?_; refine so_nil ?_; refine sn_then ?_; refine sw_ret ?_; refine sn_then_ret ?_)
    refine sn_ret rfl (.agg 4 rfl rfl rfl rfl rfl (.tmp rfl .nil)) (ent_keep 6 [0, 1, 2, 3] rfl rfl) ?_
    exact .inl ⟨hno, rfl, rfl⟩
  · obtain ⟨bk, off, rfl⟩ := k4 (by omega)
    have hmem := List.getElem_mem hk
    have hc : ∀ G w, Sat b (stW gw v (.slice (some ⟨bk, off, none⟩) M.length c) V M G) w → ∀ j, j < 40 → w.cell? ⟨bk, off + k * 40 + j, none⟩ = (waC M[k])[j]? := fun G w H j hj => M_cell (k := 2) rfl rfl rfl hq.m32 hk hj w H
    have hx32 := hq.m32 _ hmem
    obtain ⟨hxd, hxl⟩ := hq.md hmem
    have hml := hq.mlen
    generalize M[k] = x at *
    (refine so_1 rfl ?_; refine so_nil ?_; refine sn_then ?_; (iterate 2 refine sw_seq ?_); refine sw_region ?_; (iterate 2 refine so_1 rfl ?_); refine so_nil ?_; refine sn_then ?_; refine sw_cond_f rfl ?_; refine sw_skip ?_; refine sn_then ?_; refine sw_seq ?_; refine sw_region ?_; (iterate 3 refine so_1 rfl ?_); refine so_l 0 rfl rfl rfl ?_; refine so_1 rfl ?_; refine so_2 rfl (by omega) ?_)
    refine so_rd rfl (fun w H => ex_loadN (cs := waC x) rfl rfl rfl (wsC_len hx32) (fun j hj => by rw [wsC_len hx32] at hj; rw [mulz_eq, idx_lt]; exact hc _ w H j hj)) rfl ?_
    refine so_fact (fun w H => (wsF_er (k := 3) rfl hmem w H).dv.form) ?_
    rintro ⟨A5, c5, hdv, _, _, _⟩
    refine so_fact (fun w H => sl_form (wsF_er (k := 3) rfl hmem w H).rv) ?_
    rintro ⟨A6, c6, hrv, _, _, _⟩
    refine so_new rfl rfl rfl rfl rfl fun g7 => ?_
    refine so_stW 0 rfl rfl rfl rfl rfl rfl rfl (wsC_len hx32) (wsC_one (by rw [hdv]; rfl) (by rw [hrv]; rfl)) (by rw [wsC_len hx32]; rfl) ?_
    (refine so_nil ?_; refine sn_then ?_; refine sw_seq ?_; refine sw_region ?_; refine so_1 rfl ?_)
    refine so_ldA 0 rfl rfl rfl rfl rfl rfl (wsC_ev hx32) rfl ?_
    refine so_call rfl rfl rfl (CopyEvent_S (e := x.e) (wsF_er (k := 4) rfl hmem) hx32 hxd hxl) ?_
    rintro _ _ ⟨dv, rv, rfl, rfl⟩
    refine so_fact (fun w H => (H.oat (k := 0) rfl).form) ?_
    rintro ⟨A2, c2, rfl, _, _, _⟩
    refine so_fact (fun w H => (H.oat (k := 1) rfl).form) ?_
    rintro ⟨A3, c3, rfl, _, _, _⟩
    have hy32 : (x.e.own (.slice A2 x.e.deps.length c2) (.slice A3 x.e.refs.length c3)).id.length = 32 := hx32
    have hyone : ∀ u ∈ evC (x.e.own (.slice A2 x.e.deps.length c2) (.slice A3 x.e.refs.length c3)), u.oneCell' = true := evC_one rfl rfl
    have hwone : ∀ u ∈ wsC (x.e.own (.slice A2 x.e.deps.length c2) (.slice A3 x.e.refs.length c3)) x.src, u.oneCell' = true := wsC_one rfl rfl
    (refine so_1 rfl ?_)
    refine so_stA (vs := evC (x.e.own (.slice A2 x.e.deps.length c2) (.slice A3 x.e.refs.length c3))) (cs' := wsC (x.e.own (.slice A2 x.e.deps.length c2) (.slice A3 x.e.refs.length c3)) x.src) 2 rfl rfl rfl rfl rfl rfl (by rw [evC_len hy32]; rfl) (List.all_eq_true.2 hyone) rfl (splO_front _ (by rw [evC_len hy32, evC_len hx32])) rfl ?_
    generalize hye : x.e.own (.slice A2 x.e.deps.length c2) (.slice A3 x.e.refs.length c3) = ye at *
    (refine so_nil ?_; refine sn_then ?_; refine sw_seq ?_; refine sw_region ?_)
    refine so_ldA 2 rfl rfl rfl rfl rfl rfl (segO_all (by rw [wsC_len hy32]; rfl)) rfl ?_
    refine so_stW 7 rfl rfl rfl rfl rfl rfl rfl (wsC_len hy32) hwone (by rw [wsC_len hy32]; rfl) ?_
    (refine so_1 rfl ?_; refine so_nil ?_; refine sn_then ?_; refine sw_ret ?_)
    refine sn_ret rfl (.whole 7 rfl rfl rfl rfl (by rw [wsC_len hy32]; rfl) (.tmp rfl .nil)) (ent_keep 9 [0, 1, 3, 4, 5, 6] rfl rfl) ?_
    exact .inr ⟨x, hmem, _, _, hkd, by rw [hye]; rfl, rfl⟩
set_option maxRecDepth 20000 in
set_option maxHeartbeats 4000000 in
theorem rHeld_S {v l : Value} (hq : QI n V (M.map nW)) : SC Try.prog n_p_entrepotref21_Queue_Held [.pointer (some ⟨gw, 0, none⟩)] b (stW gw v l V M F) (fun u F' => ∃ D, D.map nW = M.map nW ∧ F' = rWs u D :: all (wsF D) :: stW gw v l V M F) := by
  have hml := hq.mlen
  refine enterS F_p_entrepotref21_Queue_Held rfl rfl rfl ?_
  refine sw_fact (fun w H => (H.oat (k := 2) rfl).form) ?_
  rintro ⟨A0, c0, rfl, _, _, k4⟩
  (refine sw_seq ?_; refine sw_region ?_; refine so_1 rfl ?_; refine so_nil ?_; refine sn_then ?_; refine sw_seq ?_; refine sw_region ?_; refine so_1 rfl ?_; refine so_nil ?_; refine sn_then ?_; (iterate 2 refine sw_seq ?_); refine sw_region ?_; refine so_1 rfl ?_; refine so_nil ?_; refine sn_then ?_; refine sw_block ?_)
  refine sw_loop (S := Nat × List Wn × Nat × Option Addr × Nat) (fun s => [(0, .pointer (some ⟨gw, 0, none⟩)), (3, .slice s.2.2.2.1 s.2.2.1 s.2.2.2.2), (4, .int .i64 (s.1 : Int))])
    (fun s => rWn s.2.2.2.1 s.2.2.2.2 s.2.2.1 s.2.1 :: all (wsF s.2.1) :: stW gw v (.slice A0 M.length c0) V M F) (fun s => s.1 ≤ M.length ∧ s.2.1.map nW = (M.take s.1).map nW ∧ s.2.1.length = s.2.2.1) (fun s => M.length - s.1) (0, [], 0, none, 0) ⟨rfl, rfl, rfl, trivial⟩ ?_ ⟨Nat.zero_le _, rfl, rfl⟩ ?_
  · exact (ent_close (G := [])).trans (ent_row_nil t_api_Waiting 40 rfl)
  rintro ⟨i, D, o, A, c⟩ ⟨hi1, hD, ho⟩
  dsimp only at hi1 hD ho ⊢
  have hDl : D.length = i := by have := congrArg List.length hD; rw [List.length_map, List.length_map, List.length_take] at this; omega
  ((iterate 2 refine sw_seq ?_); refine sw_region ?_; (iterate 4 refine so_1 rfl ?_); refine so_l 2 rfl rfl rfl ?_; (iterate 2 refine so_1 rfl ?_); refine so_nil ?_; refine sn_then ?_)
  refine sw_if rfl (fun h1 => ?_) (fun h1 => ?_)
  · have h1' : i < M.length := by omega
    obtain ⟨bk, off, rfl⟩ := k4 (by omega)
    have hmem := List.getElem_mem h1'
    have hsn : (M.take (i + 1)).map nW = D.map nW ++ [nW M[i]] := by rw [List.take_succ_eq_append_getElem h1', List.map_append, ← hD]; rfl
    have hc : ∀ w, Sat b (rWn A c o D :: all (wsF D) :: stW gw v (.slice (some ⟨bk, off, none⟩) M.length c0) V M F) w → ∀ j, j < 40 → w.cell? ⟨bk, off + i * 40 + j, none⟩ = (waC M[i])[j]? := fun w H j hj => M_cell (k := 4) rfl rfl rfl hq.m32 h1' hj w H
    generalize M[i] = x at *
    (refine sw_skip ?_; refine sn_then ?_; refine sw_seq ?_; refine sw_block ?_; refine sw_seq ?_; refine sw_region ?_; (iterate 4 refine so_1 rfl ?_); refine so_l 2 rfl rfl rfl ?_; refine so_1 rfl ?_; refine so_2 rfl (by omega) ?_; (iterate 2 refine so_1 rfl ?_))
    refine so_rd rfl (fun w H => ex_loadN (cs := [.int .i64 x.e.r, .int .i64 x.e.n]) rfl rfl rfl rfl (fun j hj => by
      rw [mulz_eq, idx_lt]
      rcases j with _ | _ | j
      · exact (hc w H 0 (by omega)).trans rfl
      · exact (hc w H 1 (by omega)).trans rfl
      · simp only [List.length_cons, List.length_nil] at hj; omega)) rfl ?_
    refine so_call rfl rfl rfl ((rHolds_S (gw := gw) (d := dotW x) (F := rWn A c o D :: all (wsF D) :: F) hq).ent (ent_keep 6 [2, 3, 4, 5, 0, 1] rfl rfl)) ?_
    rintro _ _ (⟨hno, _, _⟩ | ⟨y, hy, dv, rv, hyd, rfl, rfl⟩)
    · exact absurd rfl (hno x hmem)
    obtain rfl : y = x := dot_uniq hq.mnd hy hmem hyd
    have hx32 := hq.m32 _ hmem
    refine so_fact (fun w H => (H.oat (k := 0) rfl).form) ?_
    rintro ⟨A2, c2, rfl, _, _, _⟩
    refine so_fact (fun w H => (H.oat (k := 1) rfl).form) ?_
    rintro ⟨A3, c3, rfl, _, _, _⟩
    generalize hye : y.e.own (.slice A2 y.e.deps.length c2) (.slice A3 y.e.refs.length c3) = ye
    have hy32 : ye.id.length = 32 := by rw [← hye]; exact hx32
    have hyone : ∀ u ∈ wsC ye y.src, u.oneCell' = true := wsC_one (by rw [← hye]; rfl) (by rw [← hye]; rfl)
    ((iterate 3 refine so_1 rfl ?_))
    refine so_new rfl rfl rfl rfl rfl fun g5 => ?_
    refine so_stW 0 rfl rfl rfl rfl rfl rfl rfl (wsC_len hy32) hyone (by rw [wsC_len hy32]; rfl) ?_
    (refine so_1 rfl ?_; refine so_nil ?_; refine sn_then ?_; refine sw_region ?_; refine so_1 rfl ?_)
    refine so_ldA 0 rfl rfl rfl rfl rfl rfl (segO_all (by rw [wsC_len hy32]; rfl)) rfl ?_
    refine so_lit1 rfl rfl rfl rfl rfl rfl rfl (wsC_len hy32) (by decide) fun gl => ?_
    refine so_append 8 rfl rfl rfl rfl rfl rfl rfl rfl rfl (m := 1) (news := wsC ye y.src) (fun w H => (H.blk (k := 0) rfl).sl (by rw [wsC_len hy32]) (by decide)) hyone (by omega) (fun _ => rfl) fun v8 => ?_
    refine so_fact (fun w H => (H.oat (k := 8) rfl).form) ?_
    rintro ⟨A7, c7, rfl, _, _, _⟩
    (refine so_1 rfl ?_; refine so_nil ?_; refine sn_block ?_; refine sn_then ?_; refine sw_region ?_; refine so_1 rfl ?_; refine so_2 rfl (by (unfold I64; omega)) ?_; refine so_1 rfl ?_; refine so_nil ?_)
    have hnx : nW ⟨0, ye, y.src⟩ = nW y := by rw [← hye]; rfl
    refine sn_ent (G := wsP ⟨0, ye, y.src⟩ ++ (all (wsF D) :: rWn A7 c7 (o + 1) (D ++ [⟨0, ye, y.src⟩]) :: stW gw v (.slice (some ⟨bk, off, none⟩) M.length c0) V M F)) ?_ ?_
    · have e1 : rWn A7 c7 (o + 1) (D ++ [⟨0, ye, y.src⟩]) = row t_api_Waiting 40 (.slice A7 (o + 1) c7) (o + 1) (wssC D ++ wsC ye y.src) := by
        simp only [rWn, flC_app, flC, List.append_nil]
      rw [e1]
      subst hye
      exact ent_keep 10 [2, 3, 9, 8, 4, 5, 6, 7] rfl rfl
    refine sn_ent (ent_in (A := wsF (D ++ [⟨0, ye, y.src⟩])) wsF_snoc) ?_
    refine sn_round (i + 1, D ++ [⟨0, ye, y.src⟩], o + 1, A7, c7) ⟨rfl, rfl, rfl, trivial⟩ (ent_keep 2 [1, 0] rfl rfl) ⟨h1', by dsimp only; rw [hsn, List.map_append]; simp [hnx], by simp [ho]⟩ (by dsimp only; omega)
  · (refine sw_exit ?_; refine sn_then_exit ?_; refine sn_loop_exit ?_; refine sn_block_exit ?_; refine sn_then ?_; refine sw_seq ?_; refine sw_region ?_; (iterate 2 refine so_1 rfl ?_); refine so_nil ?_; refine sn_then ?_; refine sw_ret ?_)
    obtain rfl : i = M.length := by omega
    rw [List.take_length] at hD
    subst ho
    refine sn_ret rfl (.tmp rfl .nil) (Ent.refl _) ?_
    exact ⟨D, hD, rfl⟩
set_option maxHeartbeats 2000000 in
theorem rRipe_S {v l : Value} (hq : QI n V (M.map nW)) :
    SC Try.prog n_p_entrepotref21_Queue_Ripe [.pointer (some ⟨gw, 0, none⟩)] b (stW gw v l V M F) (fun u F' => ∃ A c, u = .slice A (ripes V M).length c ∧ F' = rO A c (ripes V M).length (ripes V M) :: stW gw v l V M F) := by
  have hml := hq.mlen
  refine enterS F_p_entrepotref21_Queue_Ripe rfl rfl rfl ?_
  refine sw_fact (fun w H => (H.oat (k := 2) rfl).form) ?_
  rintro ⟨A0, c0, rfl, _, _, k4⟩
  (refine sw_seq ?_; refine sw_region ?_; refine so_1 rfl ?_; refine so_nil ?_; refine sn_then ?_; refine sw_seq ?_; refine sw_region ?_; refine so_1 rfl ?_; refine so_nil ?_; refine sn_then ?_; (iterate 2 refine sw_seq ?_); refine sw_region ?_; refine so_1 rfl ?_; refine so_nil ?_; refine sn_then ?_; refine sw_block ?_)
  refine sw_loop (S := Nat × Nat × Option Addr × Nat) (fun s => [(0, .pointer (some ⟨gw, 0, none⟩)), (3, .slice s.2.2.1 s.2.1 s.2.2.2), (4, .int .i64 (s.1 : Int))])
    (fun s => rO s.2.2.1 s.2.2.2 s.2.1 (ripes V (M.take s.1)) :: stW gw v (.slice A0 M.length c0) V M F) (fun s => s.1 ≤ M.length ∧ (ripes V (M.take s.1)).length = s.2.1) (fun s => M.length - s.1) (0, 0, none, 0) ⟨rfl, rfl, rfl, trivial⟩ (ent_row_nil t_api_Dot 2 rfl) ⟨Nat.zero_le _, rfl⟩ ?_
  rintro ⟨i, o, A, c⟩ ⟨hi, ho⟩
  dsimp only at hi ho ⊢
  have hole := ripes_le V (M.take i)
  rw [List.length_take] at hole
  ((iterate 2 refine sw_seq ?_); refine sw_region ?_; (iterate 4 refine so_1 rfl ?_); refine so_l 1 rfl rfl rfl ?_; (iterate 2 refine so_1 rfl ?_); refine so_nil ?_; refine sn_then ?_)
  refine sw_if rfl (fun h1 => ?_) (fun h1 => ?_)
  · have h1' : i < M.length := by omega
    obtain ⟨bk, off, rfl⟩ := k4 (by omega)
    have hmem := List.getElem_mem h1'
    have hsn : ripes V (M.take (i + 1)) = if leqL M[i].e.deps V then ripes V (M.take i) ++ [(M[i].e.r, M[i].e.n)] else ripes V (M.take i) := by rw [List.take_succ_eq_append_getElem h1']; exact ripes_snoc V _ _
    have hc : ∀ w, Sat b (rO A c o (ripes V (M.take i)) :: stW gw v (.slice (some ⟨bk, off, none⟩) M.length c0) V M F) w → ∀ j, j < 40 → w.cell? ⟨bk, off + i * 40 + j, none⟩ = (waC M[i])[j]? := fun w H j hj => M_cell (k := 3) rfl rfl rfl hq.m32 h1' hj w H
    generalize M[i] = x at *
    obtain ⟨hxd, _⟩ := hq.md hmem
    (refine sw_skip ?_; refine sn_then ?_; refine sw_seq ?_; refine sw_block ?_; refine sw_seq ?_)
    refine sw_draw flo _ (by decide +kernel) (Ent.refl _) ?_
    ((iterate 3 refine sd_1 rfl (.inl rfl) ?_); refine sd_l 1 rfl rfl rfl rfl ?_; refine sd_1 rfl (.inl rfl) ?_; refine sd_2 rfl rfl (by omega) ?_; (iterate 2 refine sd_1 rfl (.inl rfl) ?_))
    refine sd_rd rfl (fun w H => ex_load rfl rfl rfl (by rw [mulz_eq, idx_lt]; exact (hc w H 2 (by omega)).trans rfl)) rfl rfl ?_
    ((iterate 3 refine sd_1 rfl (.inl rfl) ?_); refine sd_l 1 rfl rfl rfl rfl ?_)
    refine sd_callE rfl rfl rfl rfl (SC.ofExt fun w H => refLeq_spec (wsF_er (k := 4) rfl hmem w H).dv (vlZ (k := 2) rfl w H) (by omega)) (Ent.refl _) ?_
    refine sd_nil ?_
    cases hq1 : leqL x.e.deps V with
    | false =>
      rw [hq1] at hsn
      (refine sn_then ?_; refine sw_cond_f rfl ?_; refine sw_skip ?_; refine sn_block ?_; refine sn_then ?_; refine sw_region ?_; refine so_1 rfl ?_; refine so_2 rfl (by (unfold I64; omega)) ?_; refine so_1 rfl ?_; refine so_nil ?_)
      refine sn_round (i + 1, o, A, c) ⟨rfl, rfl, rfl, trivial⟩ (by simp only [hsn]; exact Ent.refl _) ⟨h1', by dsimp only; rw [hsn]; exact ho⟩ (by dsimp only; omega)
    | true =>
      rw [hq1, if_pos rfl] at hsn
      (refine sn_then ?_; refine sw_cond_t rfl ?_; refine sw_region ?_; (iterate 4 refine so_1 rfl ?_); refine so_l 1 rfl rfl rfl ?_; refine so_1 rfl ?_; refine so_2 rfl (by omega) ?_; (iterate 2 refine so_1 rfl ?_))
      refine so_rd rfl (fun w H => ex_loadN (cs := [.int .i64 x.e.r, .int .i64 x.e.n]) rfl rfl rfl rfl (fun j hj => by
        rw [mulz_eq, idx_lt]
        rcases j with _ | _ | j
        · exact (hc w H 0 (by omega)).trans rfl
        · exact (hc w H 1 (by omega)).trans rfl
        · simp only [List.length_cons, List.length_nil] at hj; omega)) rfl ?_
      refine so_lit1 rfl rfl rfl rfl rfl rfl rfl rfl (by decide) fun gl => ?_
      refine so_append 1 rfl rfl rfl rfl rfl rfl rfl rfl rfl (m := 1) (news := [.int .i64 x.e.r, .int .i64 x.e.n]) (fun w H => (H.blk (k := 0) rfl).sl rfl (by decide)) (fun u hu => by simp at hu; rcases hu with rfl | rfl <;> rfl) (by omega) (fun _ => rfl) fun v8 => ?_
      rw [dotsC_app]
      refine so_fact (fun w H => (H.oat (k := 1) rfl).form) ?_
      rintro ⟨A7, c7, rfl, _, _, _⟩
      (refine so_1 rfl ?_; refine so_nil ?_; refine sn_block ?_; refine sn_then ?_; refine sw_region ?_; refine so_1 rfl ?_; refine so_2 rfl (by (unfold I64; omega)) ?_; refine so_1 rfl ?_; refine so_nil ?_)
      refine sn_round (i + 1, o + 1, A7, c7) ⟨rfl, rfl, rfl, trivial⟩ (by simp only [hsn]; exact ent_keep 6 [1, 2, 3, 4, 5] rfl rfl) ⟨h1', by dsimp only; rw [hsn, List.length_append, ho]; rfl⟩ (by dsimp only; omega)
  · (refine sw_exit ?_; refine sn_then_exit ?_; refine sn_loop_exit ?_; refine sn_block_exit ?_; refine sn_then ?_; refine sw_seq ?_; refine sw_region ?_; (iterate 2 refine so_1 rfl ?_); refine so_nil ?_; refine sn_then ?_; refine sw_ret ?_)
    obtain rfl : i = M.length := by omega
    rw [List.take_length] at ho ⊢
    subst ho
    refine sn_ret rfl (.tmp rfl .nil) (Ent.refl _) ?_
    exact ⟨A, c, rfl, rfl⟩
theorem rpack {v l : Value} (hq : QI n V L) (hM : M.map nW = L) : Ent (stW gw v l V M F) (rqu gw n V L :: F) :=
  ent_pack (G := fun s : Value × Value × List Wn => stW gw s.1 s.2.1 V s.2.2 []) (v, l, M) ⟨hq, hM⟩
theorem rHolds_Q : SC Try.prog n_p_entrepotref21_Queue_Holds [.pointer (some ⟨gw, 0, none⟩), dotP d] b (rqu gw n V L :: F) (fun u F' =>
    (findW d L = none ∧ u = .tuple ⟨[.agg ⟨wsC ev0 0⟩, .bool false]⟩ ∧ F' = rqu gw n V L :: F) ∨ ∃ x dv rv, findW d L = some x ∧ u = .tuple ⟨[.agg ⟨wsC (x.e.own dv rv) x.src⟩, .bool true]⟩ ∧ F' = rZ dv x.e.deps :: rD rv x.e.refs :: rqu gw n V L :: F) := by
  refine SC.opn ?_
  rintro ⟨v, l, M⟩ ⟨hq, hM⟩
  dsimp only at hM
  subst hM
  refine (rHolds_S hq).out ?_
  rintro u _ (⟨h1, h2, rfl⟩ | ⟨x, hx, dv, rv, h1, h2, rfl⟩)
  · refine ⟨_, rpack hq rfl, .inl ⟨findW_none_of fun y hy => ?_, h2, rfl⟩⟩
    obtain ⟨z, hz, rfl⟩ := List.mem_map.1 hy
    exact h1 z hz
  · exact ⟨_, ent_cons (ent_cons (rpack hq rfl)), .inr ⟨nW x, dv, rv, findW_of hq.nd (List.mem_map.2 ⟨x, hx, rfl⟩) h1, h2, rfl⟩⟩
theorem rHeld_Q : SC Try.prog n_p_entrepotref21_Queue_Held [.pointer (some ⟨gw, 0, none⟩)] b (rqu gw n V L :: F) (fun u F' => ∃ D, D.map nW = L ∧ F' = rWs u D :: all (wsF D) :: rqu gw n V L :: F) := by
  refine SC.opn ?_
  rintro ⟨v, l, M⟩ ⟨hq, hM⟩
  dsimp only at hM
  subst hM
  refine (rHeld_S hq).out ?_
  rintro u _ ⟨D, hD, rfl⟩
  exact ⟨_, ent_cons (ent_cons (rpack hq rfl)), D, hD, rfl⟩
theorem rRipe_Q : SC Try.prog n_p_entrepotref21_Queue_Ripe [.pointer (some ⟨gw, 0, none⟩)] b (rqu gw n V L :: F) (fun u F' => ∃ A c, u = .slice A (ripes V L).length c ∧ F' = rO A c (ripes V L).length (ripes V L) :: rqu gw n V L :: F) := by
  refine SC.opn ?_
  rintro ⟨v, l, M⟩ ⟨hq, hM⟩
  dsimp only at hM
  subst hM
  refine (rRipe_S hq).out ?_
  rintro u _ ⟨A, c, h1, rfl⟩
  rw [ripes_nW]
  exact ⟨_, ent_cons (rpack hq rfl), A, c, h1, rfl⟩
end
end Go.Proofs.Ytgkhflcpbjlmiaa
/- Queues, part twenty-six: the document's queue: lay, Add. Conditions: not too many. -/
namespace Go.Proofs.Ytgkhflcpbjlmiaa
open Go.Eng Go.RowKit Go.WideMaps Go.Heap

section
variable {α : Type} {f : α → List Value} {l : List α} {sz : Nat}
theorem flC_take (h : ∀ a ∈ l, (f a).length = sz) (i : Nat) : (flC f l).take (i * sz) = flC f (l.take i) := by
  induction l generalizing i with
  | nil => simp [flC]
  | cons x l ih =>
    have h1 := h x List.mem_cons_self
    cases i with
    | zero => simp [flC]
    | succ i =>
      simp only [flC, List.take_succ_cons, ← ih (fun w hw => h w (List.mem_cons_of_mem _ hw)) i]
      rw [Nat.succ_mul, Nat.add_comm, ← h1, List.take_length_add_append]
theorem flC_drop (h : ∀ a ∈ l, (f a).length = sz) (i : Nat) : (flC f l).drop (i * sz) = flC f (l.drop i) := by
  induction l generalizing i with
  | nil => simp [flC]
  | cons x l ih =>
    have h1 := h x List.mem_cons_self
    cases i with
    | zero => simp [flC]
    | succ i =>
      simp only [flC, List.drop_succ_cons, ← ih (fun w hw => h w (List.mem_cons_of_mem _ hw)) i]
      rw [Nat.succ_mul, Nat.add_comm, ← h1, List.drop_length_add_append]
theorem flC_setcell (h : ∀ a ∈ l, (f a).length = sz) {i j : Nat} {x : α} {v : Value} (hi : i < l.length) (hj : j < sz) (hx : f x = (f l[i]).set j v) : spl (flC f l) (i * sz + j) [v] = flC f (l.set i x) := by
  have hs : ∀ {cs : List Value} {o : Nat}, o < cs.length → spl cs o [v] = cs.set o v := fun {cs o} ho => by
    rw [spl, List.set_eq_take_append_cons_drop, if_pos ho]; simp
  have hle : (i + 1) * sz ≤ l.length * sz := Nat.mul_le_mul_right _ hi
  rw [Nat.succ_mul] at hle
  rw [hs (by rw [flC_len h]; omega)]
  clear hs hle
  induction l generalizing i with
  | nil => simp at hi
  | cons y l ih =>
    have h1 := h y List.mem_cons_self
    cases i with
    | zero =>
      simp only [List.getElem_cons_zero] at hx
      simp only [List.set_cons_zero, flC, hx, Nat.zero_mul, Nat.zero_add]
      rw [List.set_append_left _ _ (by omega)]
    | succ i =>
      have := ih (fun w hw => h w (List.mem_cons_of_mem _ hw)) (by simpa using hi) (by simpa using hx)
      simp only [List.set_cons_succ, flC, ← this]
      rw [List.set_append_right _ _ (by rw [h1, Nat.succ_mul]; omega), h1, Nat.succ_mul, show i * sz + sz + j - sz = i * sz + j by omega]
end
theorem insL_at (x : Wn) : ∀ (l : List Wn) (i : Nat), i ≤ l.length → (∀ k (hk : k < l.length), k < i → HOrd.lt l[k] x = true) → (∀ hi : i < l.length, HOrd.lt l[i] x = false) → insL x l = l.take i ++ x :: l.drop i
  | [], i, h, _, _ => by
    obtain rfl : i = 0 := by simpa using h
    rfl
  | y :: l, 0, _, _, h2 => by
    have := h2 (by simp)
    simp only [List.getElem_cons_zero] at this
    simp only [insL, this, List.take_zero, List.drop_zero, List.nil_append]; rfl
  | y :: l, i + 1, h, h1, h2 => by
    have h3 := h1 0 (by simp) (by omega)
    simp only [List.getElem_cons_zero] at h3
    simp only [insL, h3, if_true, List.take_succ_cons, List.drop_succ_cons, List.cons_append]
    rw [insL_at x l i (by simpa using h) (fun k hk hlt => by have := h1 (k + 1) (by simpa using hk) (by omega); simpa using this) (fun hi => by have := h2 (by simpa using hi); simpa using this)]
section
variable {b : World} {F : List SP} {gw n : Nat} {V : List Int} {L M : List Wn} {e : Ev} {s : Int} {d : Int × Int}
theorem revLess_S {e f : Ev} (he : ∀ w, Sat b F w → VL (Value.int .i64) w e.dv e.deps) (hf : ∀ w, Sat b F w → VL (Value.int .i64) w f.dv f.deps) (h1 : e.deps.length ≤ 1000000) (h2 : f.deps.length ≤ 1000000) :
    SC Try.prog n_entrepotref19_Less [evV e, evV f] b F (fun v F' => v = .bool (ltE e f) ∧ F' = F) := by
  refine enterS F_entrepotref19_Less rfl rfl rfl ?_
  (refine sw_seq ?_; refine sw_region ?_)
  refine so_box rfl rfl rfl rfl rfl fun g2 => ?_
  skip
  refine so_box rfl rfl rfl rfl rfl fun g3 => ?_
  (refine so_1 rfl ?_; refine so_nil ?_; refine sn_then ?_; refine sw_seq ?_; refine sw_region ?_; refine so_1 rfl ?_; refine so_l 1 rfl rfl rfl ?_; refine so_1 rfl ?_; refine so_l 1 rfl rfl rfl ?_; refine so_1 rfl ?_; refine so_l 0 rfl rfl rfl ?_; refine so_1 rfl ?_; refine so_l 0 rfl rfl rfl ?_)
  refine so_callE rfl rfl rfl (SC.ofExt fun w H => refLess_spec (up he (ent_keep 2 [] rfl rfl) w H) (up hf (ent_keep 2 [] rfl rfl) w H) (by omega) (by omega)) ?_
  (refine so_1 rfl ?_; refine so_nil ?_; refine sn_then ?_; refine sw_ret ?_)
  refine sn_ret rfl (.tmp rfl .nil) (ent_keep 2 [] rfl rfl) ?_
  exact ⟨rfl, rfl⟩
theorem ws_one {l : List Wn} (h : ∀ m ∈ l, m.e.dv.oneCell' = true ∧ m.e.rv.oneCell' = true) : ∀ u ∈ wssC l, u.oneCell' = true := flC_one fun m hm => wsC_one (h m hm).1 (h m hm).2
theorem wsF_one {l : List Wn} {k : Nat} (hk : nth F k = some (all (wsF l))) : ∀ w, Sat b F w → ∀ m ∈ l, m.e.dv.oneCell' = true ∧ m.e.rv.oneCell' = true := fun w H m hm => by
  obtain ⟨h1, h2⟩ := wsF_er hk hm w H
  obtain ⟨A, c, hv, _⟩ := h1.form
  obtain ⟨A2, c2, hv2, _⟩ := sl_form h2
  rw [hv, hv2]; exact ⟨rfl, rfl⟩
set_option maxRecDepth 20000 in
set_option maxHeartbeats 4000000 in
theorem lay_S {v l : Value} (hq : QI n V (M.map nW)) (h64 : M.length ≤ 1000) (he : ∀ w, Sat b F w → ER w e) (h32 : e.id.length = 32) (hd : e.deps.length ≤ 1000000) (hl : e.refs.length ≤ 1000000) :
    SC Try.prog n_p_entrepotref21_Queue_lay [.pointer (some ⟨gw, 0, none⟩), .agg ⟨wsC e s⟩] b (stW gw v l V M F) (fun _ F' => ∃ l' M', F' = stW gw v l' V M' F ∧ M'.map nW = insL (nW ⟨0, e, s⟩) (M.map nW)) := by
  have hm32 := hq.m32
  refine enterS F_p_entrepotref21_Queue_lay rfl rfl rfl ?_
  refine sw_fact (fun w H => (H.oat (k := 2) rfl).form) ?_
  rintro ⟨A, c, rfl, kc, _, k4⟩
  (refine sw_seq ?_; refine sw_region ?_)
  refine so_box rfl rfl rfl rfl rfl fun g3 => ?_
  refine so_ent (ent_keep 5 [1, 2, 3, 4, 0] rfl rfl) ?_
  refine so_nil (sn_then (sw_seq (sw_region ?_)))
  refine so_1 rfl ?_
  refine so_nil (sn_then ?_)
  refine sw_mid (S := Nat) (fun i => [(0, .pointer (some ⟨gw, 0, none⟩)), (3, .pointer (some ⟨g3, 0, none⟩)), (4, .int .i64 (i : Int))]) (fun _ => stW gw v (.slice A M.length c) V M (pt g3 t_api_Waiting (wsC e s) :: F)) (fun i => i ≤ M.length ∧ insL (nW ⟨0, e, s⟩) (M.map nW) = (M.take i).map nW ++ nW ⟨0, e, s⟩ :: (M.drop i).map nW) ?_ ?_
  · (refine sw_block ?_)
    refine sw_loop (S := Nat) (fun i => [(0, .pointer (some ⟨gw, 0, none⟩)), (3, .pointer (some ⟨g3, 0, none⟩)), (4, .int .i64 (i : Int))]) (fun _ => stW gw v (.slice A M.length c) V M (pt g3 t_api_Waiting (wsC e s) :: F)) (fun i => i ≤ M.length ∧ ∀ k (hk : k < M.length), k < i → ltE M[k].e e = true) (fun i => M.length - i) 0 ⟨rfl, rfl, rfl, trivial⟩ (Ent.refl _) ⟨Nat.zero_le _, fun k _ h => absurd h (Nat.not_lt_zero k)⟩ ?_
    rintro i ⟨hi, hk⟩
    have fin : ∀ (hstop : ∀ hi : i < M.length, ltE M[i].e e = false), insL (nW ⟨0, e, s⟩) (M.map nW) = (M.take i).map nW ++ nW ⟨0, e, s⟩ :: (M.drop i).map nW := fun hstop => by
      rw [insL_at (nW ⟨0, e, s⟩) (M.map nW) i (by simpa using hi) (fun k hk' hlt => by
        have h1 : k < M.length := by simpa using hk'
        have := hk k h1 hlt
        rw [List.getElem_map]; exact this) (fun hi' => by
        have h1 : i < M.length := by simpa using hi'
        have := hstop h1
        rw [List.getElem_map]; exact this), List.map_take, List.map_drop]
    ((iterate 2 refine sw_seq ?_))
    refine sw_draw flo _ (by decide +kernel) (Ent.refl _) ?_
    ((iterate 4 refine sd_1 rfl (.inl rfl) ?_); refine sd_l 0 rfl rfl rfl rfl ?_; (iterate 3 refine sd_1 rfl (.inl rfl) ?_))
    by_cases h1 : i < M.length
    · refine sd_know 13 (.bool true) rfl (congrArg Value.bool (decide_eq_true (by omega))) ?_
      obtain ⟨bk, off, rfl⟩ := k4 (by omega)
      have hmem := List.getElem_mem h1
      have hc : ∀ w, Sat b (stW gw v (.slice (some ⟨bk, off, none⟩) M.length c) V M (pt g3 t_api_Waiting (wsC e s) :: F)) w → ∀ j, j < 40 → w.cell? ⟨bk, off + i * 40 + j, none⟩ = (waC M[i])[j]? := fun w H j hj => M_cell (k := 2) rfl rfl rfl hm32 h1 hj w H
      have hnx : ltE M[i].e e = true → ∀ k (hk : k < M.length), k < i + 1 → ltE M[k].e e = true := fun h k hk' hlt => by
        by_cases e1 : k = i
        · subst e1; exact h
        · exact hk k hk' (by omega)
      have fin' : ltE M[i].e e = false → _ := fun h => fin fun _ => h
      have hx32 := hm32 _ hmem
      obtain ⟨hxd, hxl⟩ := hq.md hmem
      generalize M[i] = x at *
      ((iterate 3 refine sd_1 rfl (.inl rfl) ?_); refine sd_l 0 rfl rfl rfl rfl ?_; refine sd_1 rfl (.inl rfl) ?_; refine sd_2 rfl rfl (by omega) ?_; refine sd_1 rfl (.inl rfl) ?_)
      refine sd_rd rfl (fun w H => ex_loadN (cs := evC x.e) rfl rfl rfl (evC_len hx32) (fun j hj => by rw [evC_len hx32] at hj; rw [mulz_eq, idx_lt]; exact (hc w H j (by omega)).trans (wa_ev hx32 hj))) rfl rfl ?_
      (refine sd_1 rfl (.inl rfl) ?_)
      refine sd_ldA 4 rfl rfl rfl rfl rfl rfl (wsC_ev h32) rfl rfl ?_
      refine sd_callE rfl rfl rfl rfl (revLess_S (fun w H => (wsF_er (k := 3) rfl hmem w H).dv) (up (fun w H => (he w H).dv) (ent_keep 5 [] rfl rfl)) hxd hd) (Ent.refl _) ?_
      (refine sd_1 rfl (.inl rfl) ?_)
      refine sd_nil ?_
      cases hq1 : ltE x.e e with
      | true =>
        (refine sn_then ?_; refine sw_cond_t rfl ?_; refine sw_skip ?_; refine sn_then ?_; refine sw_block ?_; refine sw_region ?_; refine so_1 rfl ?_; refine so_2 rfl (by (unfold I64; omega)) ?_; refine so_1 rfl ?_; refine so_nil ?_; refine sn_block ?_)
        refine sn_round (i + 1) ⟨rfl, rfl, rfl, trivial⟩ (Ent.refl _) ⟨h1, hnx hq1⟩ ?_
        show M.length - (i + 1) < M.length - i
        omega
      | false =>
        (refine sn_then ?_; refine sw_cond_f rfl ?_; refine sw_exit ?_; refine sn_then_exit ?_; refine sn_loop_exit ?_; refine sn_block_exit ?_)
        exact sn_mid i ⟨rfl, rfl, rfl, trivial⟩ (Ent.refl _) ⟨hi, fin' hq1⟩
    · refine sd_know 13 (.bool false) rfl (congrArg Value.bool (decide_eq_false (by omega))) ?_
      ((iterate 10 refine sd_1 rfl (.inl rfl) ?_); refine sd_1 rfl (.inr rfl) ?_; refine sd_1 rfl (.inl rfl) ?_)
      refine sd_nil ?_
      (refine sn_then ?_; refine sw_cond_f rfl ?_; refine sw_exit ?_; refine sn_then_exit ?_; refine sn_loop_exit ?_; refine sn_block_exit ?_)
      exact sn_mid i ⟨rfl, rfl, rfl, trivial⟩ (Ent.refl _) ⟨hi, fin fun h => absurd h h1⟩
  rintro i ⟨hi, hins⟩
  (refine sw_seq ?_; refine sw_region ?_; refine so_1 rfl ?_)
  refine so_ldA 4 rfl rfl rfl rfl rfl rfl (wsC_ev h32) rfl ?_
  refine so_call rfl rfl rfl (CopyEvent_S (e := e) (up he (ent_keep 5 [] rfl rfl)) h32 hd hl) ?_
  rintro _ _ ⟨dv, rv, rfl, rfl⟩
  refine so_fact (fun w H => (H.oat (k := 0) rfl).form) ?_
  rintro ⟨A2, c2, rfl, _, _, _⟩
  refine so_fact (fun w H => (H.oat (k := 1) rfl).form) ?_
  rintro ⟨A3, c3, rfl, _, _, _⟩
  refine so_fact (fun w H => wsF_one (k := 5) rfl w H) fun hMone => ?_
  have hMones := ws_one hMone
  have hy32 : (e.own (.slice A2 e.deps.length c2) (.slice A3 e.refs.length c3)).id.length = 32 := h32
  have hyone : ∀ u ∈ evC (e.own (.slice A2 e.deps.length c2) (.slice A3 e.refs.length c3)), u.oneCell' = true := evC_one rfl rfl
  have hwone : ∀ u ∈ wsC (e.own (.slice A2 e.deps.length c2) (.slice A3 e.refs.length c3)) s, u.oneCell' = true := wsC_one rfl rfl
  (refine so_1 rfl ?_)
  refine so_stA (vs := evC (e.own (.slice A2 e.deps.length c2) (.slice A3 e.refs.length c3))) (cs' := wsC (e.own (.slice A2 e.deps.length c2) (.slice A3 e.refs.length c3)) s) 6 rfl rfl rfl rfl rfl rfl (by rw [evC_len hy32]; rfl) (List.all_eq_true.2 hyone) rfl (splO_front _ (by rw [evC_len hy32, evC_len h32])) rfl ?_
  generalize hye : e.own (.slice A2 e.deps.length c2) (.slice A3 e.refs.length c3) = ye at *
  (refine so_nil ?_; refine sn_then ?_; refine sw_seq ?_; refine sw_region ?_)
  refine so_lit0 rfl rfl rfl rfl rfl fun g32 => ?_
  refine so_ent (ent_blk_row (n := 0) (sz := 40) rfl rfl (by decide) 0 rfl rfl) ?_
  ((iterate 3 refine so_1 rfl ?_); refine so_l 3 rfl rfl rfl ?_; refine so_1 rfl ?_; refine so_2 rfl (by omega) ?_)
  have hi1 : ((i : Int)).toNat = i := idx_lt
  refine so_know 38 (.slice (if c = i then A else A.map (·.add (i * 40))) (M.length - i) (c - i)) rfl (by rw [hi1]) ?_
  refine so_append 0 rfl rfl rfl rfl rfl rfl rfl rfl rfl (row_drop_sl (k := 5) rfl hi) (fun u hu => hMones u (List.mem_of_mem_drop hu)) (by omega) (fun _ => rfl) fun v39 => ?_
  rw [Nat.zero_add (M.length - i), List.nil_append, flC_drop (wa_len hm32)]
  refine so_fact (fun w H => (H.oat (k := 0) rfl).form) ?_
  rintro ⟨A4, c4, rfl, _, _, _⟩
  (refine so_1 rfl ?_; refine so_nil ?_; refine sn_then ?_)
  refine sw_draw2 flo 12 (pt gw t_entrepotref21_Queue [v, .slice A M.length c] :: pt g3 t_api_Waiting (wsC ye s) :: F) [] rfl (by decide +kernel) (ent_keep 8 [3, 7] rfl rfl) ?_
  ((iterate 4 refine sd_1 rfl (.inl rfl) ?_); refine sd_l 0 rfl rfl rfl rfl ?_; refine sd_1 rfl (.inl rfl) ?_; refine sd_2 rfl rfl (by omega) ?_)
  refine sd_ldA 1 rfl rfl rfl rfl rfl rfl (segO_all (by rw [wsC_len hy32]; rfl)) rfl rfl ?_
  refine sd_lit1 rfl rfl rfl rfl rfl rfl rfl rfl (wsC_len hy32) (by decide) (ent_keep 8 [3, 7] rfl rfl) fun gl => ?_
  refine sd_know 46 (.slice A i c) rfl rfl ?_
  refine sd_appendP 6 rfl rfl rfl rfl rfl rfl rfl rfl rfl rfl hi (m := 1) (news := wsC ye s) (fun w H => (H.blk (k := 0) rfl).sl (by rw [wsC_len hy32]) (by decide)) hwone (by omega) (fun _ => rfl) (fun _ => ent_keep 9 [4, 8] rfl rfl) fun v49 => ?_
  rw [flC_take (wa_len hm32)]
  (refine sd_1 rfl (.inl rfl) ?_)
  refine sd_append 6 rfl rfl rfl rfl rfl rfl rfl rfl rfl rfl (m := M.length - i) (news := wssC (M.drop i)) (fun w H => (H.oat (k := 1) rfl).sl) (ws_one fun m hm => hMone m (List.mem_of_mem_drop hm)) (by omega) (fun _ => rfl) (fun _ => ent_keep 9 [4, 8] rfl rfl) fun v51 => ?_
  refine sd_fact (fun w H => (H.oat (k := 6) rfl).form) ?_
  rintro ⟨A7, c7, rfl, _, _, _⟩
  skip
  refine sd_nil (sn_draw2 rfl (ent_nil _) ?_)
  ((iterate 2 refine sd_1 rfl (.inl rfl) ?_))
  refine sd_st 4 rfl rfl rfl rfl rfl rfl rfl rfl rfl rfl rfl (ent_nil _) ?_
  refine sd_nil ?_
  have hM' : (M.take i ++ (⟨0, ye, s⟩ : Wn) :: M.drop i).length = i + 1 + (M.length - i) := by simp; omega
  have hcat : wssC (M.take i) ++ wsC ye s ++ wssC (M.drop i) = wssC (M.take i ++ (⟨0, ye, s⟩ : Wn) :: M.drop i) := by
    rw [wssC, flC_app, flC, List.append_assoc]
  have hperm : (wsF (M.take i ++ (⟨0, ye, s⟩ : Wn) :: M.drop i)).Perm (wsP ⟨0, ye, s⟩ ++ wsF M) := by
    have e1 : wsF M = wsF (M.take i) ++ wsF (M.drop i) := by rw [← wsF_app, List.take_append_drop]
    rw [wsF_app, wsF, e1, ← List.append_assoc, ← List.append_assoc]
    exact List.perm_append_comm.append_right _
  rw [hcat]
  refine sn_ent (G := wsP ⟨0, ye, s⟩ ++ (all (wsF M) :: pt gw t_entrepotref21_Queue [v, .slice A7 (i + 1 + (M.length - i)) c7] :: rZ v V :: rWn A7 c7 (i + 1 + (M.length - i)) (M.take i ++ (⟨0, ye, s⟩ : Wn) :: M.drop i) :: F)) (by subst hye; exact ent_keep 9 [2, 3, 7, 4, 5, 6] rfl rfl) ?_
  skip
  refine sn_end rfl .nil ((ent_in (A := wsF (M.take i ++ (⟨0, ye, s⟩ : Wn) :: M.drop i)) hperm).trans (ent_keep 4 [1, 2, 3, 0] rfl rfl)) ?_
  refine ⟨.slice A7 (i + 1 + (M.length - i)) c7, M.take i ++ (⟨0, ye, s⟩ : Wn) :: M.drop i, by simp only [stW, rWs, hM'], ?_⟩
  rw [hins, List.map_append, List.map_cons]
  have : nW ⟨0, ye, s⟩ = nW ⟨0, e, s⟩ := by rw [← hye]; rfl
  rw [this]
end
end Go.Proofs.Ytgkhflcpbjlmiaa
/- Queues, part twenty-seven: the document's queue: Add, Deliver, Own. Conditions: not too many. -/
namespace Go.Proofs.Ytgkhflcpbjlmiaa
open Go.Eng Go.RowKit Go.WideMaps Go.Heap

theorem findW_M {d : Int × Int} {M : List Wn} : (∀ x ∈ M, dotW x ≠ d) → findW d (M.map nW) = none := fun h => findW_none_of fun y hy => by
  obtain ⟨z, hz, rfl⟩ := List.mem_map.1 hy
  exact h z hz
theorem delW_M {d : Int × Int} {M : List Wn} {k : Nat} (hk : k < M.length) (hd : dotW M[k] = d) (hnd : (M.map dotW).Nodup) : delW d (M.map nW) = (M.take k ++ M.drop (k + 1)).map nW := by
  have h1 : M = M.take k ++ M[k] :: M.drop (k + 1) := by rw [← List.drop_eq_getElem_cons hk, List.take_append_drop]
  have h2 : M.map nW = (M.take k).map nW ++ nW M[k] :: (M.drop (k + 1)).map nW := by
    conv => lhs; rw [h1, List.map_append, List.map_cons]
  rw [h2, delW_split (show dotW (nW M[k]) = d from hd) (by
    rw [← h2, List.map_map]; exact hnd), List.map_append]
section
variable {b : World} {F : List SP} {gw n : Nat} {V : List Int} {L M : List Wn} {e : Ev} {s : Int} {d : Int × Int}
set_option maxRecDepth 20000 in
set_option maxHeartbeats 4000000 in
theorem rAdd_S {v l : Value} (hq : QI n V (M.map nW)) (he : ∀ w, Sat b F w → ER w e) (h32 : e.id.length = 32) (hd : e.deps.length ≤ 1000000) (hl : e.refs.length ≤ 1000000) :
    SC Try.prog n_p_entrepotref21_Queue_Add [.pointer (some ⟨gw, 0, none⟩), evV e, .int .i64 s] b (stW gw v l V M F) (fun u F' => u = .tuple ⟨[.bool (addB V (M.map nW) e s), .int .i64 (addE V (M.map nW) e s)]⟩ ∧ ∃ l' M', F' = stW gw v l' V M' F ∧ M'.map nW = addL V (M.map nW) e s) := by
  have hVl := hq.len
  have h16 := hq.n2
  have hml := hq.mlen
  have hlM : (M.map nW).length = M.length := List.length_map _
  refine enterS F_p_entrepotref21_Queue_Add rfl rfl rfl ?_
  refine sw_fact (fun w H => (H.oat (k := 1) rfl).form) ?_
  rintro ⟨Av, cv, rfl, _, _, _⟩
  refine sw_fact (fun w H => (H.oat (k := 2) rfl).form) ?_
  rintro ⟨A, c, rfl, _, _, k4⟩
  (refine sw_seq ?_; refine sw_region ?_)
  refine so_box rfl rfl rfl rfl rfl fun g4 => ?_
  refine so_ent (ent_keep 5 [1, 2, 3, 4, 0] rfl rfl) ?_
  ((iterate 2 refine so_1 rfl ?_); refine so_nil ?_; refine sn_then ?_; (iterate 2 refine sw_seq ?_))
  refine sw_draw flo _ (by decide +kernel) (Ent.refl _) ?_
  refine sd_ldA 4 rfl rfl rfl rfl rfl rfl (segO_all (by rw [evC_len h32]; rfl)) rfl rfl ?_
  ((iterate 4 refine sd_1 rfl (.inl rfl) ?_); refine sd_l 0 rfl rfl rfl rfl ?_; refine sd_1 rfl (.inl rfl) ?_)
  refine sd_callE rfl rfl rfl rfl (rfits_S (n := V.length) (up (fun w H => (he w H).dv) (ent_keep 5 [] rfl rfl)) (by omega)) (Ent.refl _) ?_
  (refine sd_1 rfl (.inl rfl) ?_)
  refine sd_nil ?_
  cases hf : fitsB V.length e s with
  | false =>
    (refine sn_then ?_; refine sw_cond_t rfl ?_; refine sw_seq ?_; refine sw_region ?_; (iterate 2 refine so_1 rfl ?_); refine so_nil ?_; refine sn_then ?_; refine sw_ret ?_; refine sn_then_ret ?_)
    refine sn_ret rfl (.tmp rfl (.tmp rfl .nil)) (ent_keep 5 [0, 1, 2, 3] rfl rfl) ?_
    refine ⟨?_, _, M, rfl, ?_⟩
    · rw [addB, addE, hf]; rfl
    · rw [addL, if_pos (.inl hf)]
  | true =>
  (refine sn_then ?_; refine sw_cond_f rfl ?_; refine sw_skip ?_; refine sn_then ?_; refine sw_seq ?_; refine sw_region ?_; (iterate 2 refine so_1 rfl ?_); refine so_l 4 rfl rfl rfl ?_)
  refine so_call rfl rfl rfl (place_S (d := (e.r, e.n)) hq.m32 hml) ?_
  rintro u _ ⟨hp0, rfl⟩
  obtain ⟨i, rfl, hp⟩ : ∃ i : Int, u = .int .i64 i ∧ ((∀ x ∈ M, dotW x ≠ (e.r, e.n)) ∧ i = -1 ∨ ∃ (k : Nat) (hk : k < M.length), i = k ∧ dotW M[k] = (e.r, e.n)) := by
    rcases hp0 with ⟨h1, h2⟩ | ⟨k, hk, h1, h2⟩
    · exact ⟨_, h2, .inl ⟨h1, rfl⟩⟩
    · exact ⟨_, h1, .inr ⟨k, hk, rfl, h2⟩⟩
  (refine so_1 rfl ?_; refine so_nil ?_; refine sn_then ?_; refine sw_seq ?_; refine sw_block ?_; refine sw_seq ?_)
  refine sw_draw flo _ (by decide +kernel) (Ent.refl _) ?_
  ((iterate 3 refine sd_1 rfl (.inl rfl) ?_); refine sd_l 0 rfl rfl rfl rfl ?_; refine sd_1 rfl (.inl rfl) ?_; refine sd_l 4 rfl rfl rfl rfl ?_)
  refine sd_callE rfl rfl rfl rfl (SC.ofExt fun w H => refHas_spec (vlZ (k := 1) rfl w H)) (Ent.refl _) ?_
  (refine sd_1 rfl (.inl rfl) ?_)
  refine sd_nil ?_
  cases hh : hasL V e.r e.n with
  | true =>
    (refine sn_then ?_; refine sw_cond_t rfl ?_; refine sw_seq ?_; refine sw_region ?_; (iterate 2 refine so_1 rfl ?_); refine so_nil ?_; refine sn_then ?_; refine sw_ret ?_; refine sn_block_ret ?_; refine sn_then_ret ?_)
    refine sn_ret rfl (.tmp rfl (.tmp rfl .nil)) (ent_keep 5 [0, 1, 2, 3] rfl rfl) ?_
    refine ⟨?_, _, M, rfl, ?_⟩
    · rw [addB, addE, hf, hh]; rfl
    · rw [addL, if_pos (.inr hh)]
  | false =>
  clear hp0
  rcases hp with ⟨hno, rfl⟩ | ⟨k, hk, rfl, hkd⟩
  · have hfw := findW_M hno
    (refine sn_then ?_; refine sw_cond_f rfl ?_; refine sw_seq ?_; refine sw_region ?_; (iterate 3 refine so_1 rfl ?_); refine so_nil ?_; refine sn_then ?_; refine sw_cond_f rfl ?_; refine sw_seq ?_; refine sw_region ?_; (iterate 3 refine so_1 rfl ?_); refine so_l 0 rfl rfl rfl ?_; (iterate 3 refine so_1 rfl ?_); refine so_nil ?_; refine sn_then ?_)
    by_cases hm : 64 ≤ M.length
    · refine sw_know 41 (.bool true) rfl (congrArg Value.bool (decide_eq_true (by omega))) ?_
      (refine sw_cond_t rfl ?_; refine sw_seq ?_; refine sw_region ?_; (iterate 2 refine so_1 rfl ?_); refine so_nil ?_; refine sn_then ?_; refine sw_ret ?_; refine sn_block_ret ?_; refine sn_then_ret ?_)
      refine sn_ret rfl (.tmp rfl (.tmp rfl .nil)) (ent_keep 5 [0, 1, 2, 3] rfl rfl) ?_
      have hm' : ¬ (M.map nW).length < 64 := by omega
      refine ⟨?_, _, M, rfl, ?_⟩
      · rw [addB, addE, hf, hh, hfw]; simp [hm, hm', tupl]
      · rw [addL, hfw, if_neg (by simp [hf, hh]), if_neg (by simp), if_pos (by omega)]
    · refine sw_know 41 (.bool false) rfl (congrArg Value.bool (decide_eq_false (by omega))) ?_
      (refine sw_cond_f rfl ?_; refine sw_skip ?_; refine sn_block ?_; refine sn_then ?_; refine sw_seq ?_; refine sw_region ?_; refine so_1 rfl ?_)
      refine so_ldA 4 rfl rfl rfl rfl rfl rfl (segO_all (by rw [evC_len h32]; rfl)) rfl ?_
      (refine so_1 rfl ?_)
      refine so_B rfl rfl rfl ⟨evC_len h32, rfl, trivial⟩ ?_
      have hx := lay_S (b := b) (F := pt g4 t_api_Event (evC e) :: F) (gw := gw) (v := .slice Av V.length cv) (l := .slice A M.length c) (V := V) (M := M) (e := e) (s := s) hq (by omega) (up he (ent_keep 1 [] rfl rfl)) h32 hd hl
      refine so_call rfl rfl rfl (hx) ?_
      rintro _ _ ⟨l', M', rfl, hM'⟩
      (refine so_nil ?_; refine sn_then ?_; refine sw_seq ?_; refine sw_region ?_; (iterate 2 refine so_1 rfl ?_); refine so_nil ?_; refine sn_then ?_; refine sw_ret ?_)
      refine sn_ret rfl (.tmp rfl (.tmp rfl .nil)) (ent_keep 5 [0, 1, 2, 3] rfl rfl) ?_
      have hm' : M.length < 64 := by omega
      refine ⟨?_, l', M', rfl, ?_⟩
      · rw [addB, addE, hf, hh, hfw]; simp [hm, hm', tupl]
      · rw [addL, hfw, if_neg (by simp [hf, hh]), if_neg (by simp), if_neg (by omega)]; exact hM'
  · have hfw : findW (e.r, e.n) (M.map nW) = some (nW M[k]) := findW_of hq.nd (List.mem_map.2 ⟨_, List.getElem_mem hk, rfl⟩) hkd
    obtain ⟨bk, off, rfl⟩ := k4 (by omega)
    have hx32 := hq.m32 _ (List.getElem_mem hk)
    have hset : spl (wssC M) (k * 40 + 39) [.int .i64 s] = wssC (M.set k ⟨M[k].g, M[k].e, s⟩) := flC_setcell (wa_len hq.m32) hk (by omega) (by
      obtain ⟨h1, _⟩ := stO_set (wsC_stsrc (e := M[k].e) (s := M[k].src) (s' := s) hx32)
      exact h1)
    have hlen := wssC_len hq.m32
    have hsF : wsF (M.set k ⟨M[k].g, M[k].e, s⟩) = wsF M := by
      have : ∀ (l : List Wn) (k : Nat) (hk : k < l.length), wsF (l.set k ⟨l[k].g, l[k].e, s⟩) = wsF l := by
        intro l
        induction l with
        | nil => intro k hk; simp at hk
        | cons x l ih =>
          intro k hk
          cases k with
          | zero => rfl
          | succ k => simp only [List.set_cons_succ, wsF, List.getElem_cons_succ]; rw [ih k (by simpa using hk)]
      exact this M k hk
    have hMset : (M.set k ⟨M[k].g, M[k].e, s⟩).map nW = (M.map nW).map (setS (e.r, e.n) s) := by
      apply List.ext_getElem
      · simp
      · intro j h1 h2
        have hj : j < M.length := by simpa using h1
        simp only [List.getElem_map, List.getElem_set]
        by_cases hjk : k = j
        · subst hjk
          rw [if_pos rfl]
          unfold setS
          rw [if_pos (show dotW (nW M[k]) = (e.r, e.n) from hkd)]; rfl
        · rw [if_neg hjk]
          unfold setS
          rw [if_neg]
          intro hc
          have hnd := hq.mnd
          have h5 : (M.map dotW)[j]'(by simpa using hj) = (M.map dotW)[k]'(by simpa using hk) := by
            rw [List.getElem_map, List.getElem_map, hkd]; exact hc
          exact hjk ((List.getElem_inj hnd).1 h5).symm
    (refine sn_then ?_; refine sw_cond_f rfl ?_; refine sw_seq ?_; refine sw_region ?_; (iterate 3 refine so_1 rfl ?_); refine so_nil ?_; refine sn_then ?_; refine sw_cond_t rfl ?_; refine sw_seq ?_; refine sw_region ?_; (iterate 3 refine so_1 rfl ?_); refine so_l 0 rfl rfl rfl ?_; (iterate 2 refine so_1 rfl ?_); refine so_2 rfl (by omega) ?_; refine so_1 rfl ?_)
    refine so_strow 2 (k * 40 + 39) rfl rfl rfl rfl rfl rfl rfl rfl hset rfl (by rw [mulz_eq, idx_lt, Nat.add_assoc]) (by rw [hlen]; have : (k + 1) * 40 ≤ M.length * 40 := Nat.mul_le_mul_right _ hk; simp; omega) (by simp [Value.oneCell']) ?_
    (refine so_nil ?_; refine sn_then ?_; refine sw_seq ?_; refine sw_region ?_; (iterate 2 refine so_1 rfl ?_); refine so_nil ?_; refine sn_then ?_; refine sw_ret ?_; refine sn_block_ret ?_; refine sn_then_ret ?_)
    refine sn_ret rfl (.tmp rfl (.tmp rfl .nil)) (ent_keep 5 [0, 1, 2, 3] rfl rfl) ?_
    refine ⟨?_, .slice (some ⟨bk, off, none⟩) M.length c, M.set k ⟨M[k].g, M[k].e, s⟩, ?_, ?_⟩
    · rw [addB, addE, hf, hh, hfw]; rfl
    · simp only [stW, rWs, List.length_set, hsF]
    · rw [addL, hfw, if_neg (by simp [hf, hh])]; exact hMset
theorem QI.add {n : Nat} {V : List Int} {L : List Wn} {e : Ev} {s : Int} (hq : QI n V L) (hew : EW e) (hl : e.refs.length ≤ 1000000) : QI n V (addL V L e s) := by
  unfold addL
  split
  · exact hq
  · rename_i h1
    have hf : fitsB n e s = true := by
      rw [← hq.len]
      cases hc : fitsB V.length e s with
      | true => rfl
      | false => exact absurd (.inl hc) h1
    have hh : hasL V e.r e.n = false := by
      cases hc : hasL V e.r e.n with
      | false => rfl
      | true => exact absurd (.inr hc) h1
    split
    · exact hq.setS hf
    · rename_i h2
      split
      · exact hq
      · exact hq.ins hf hh (by simpa using h2) hew hl (by omega)
theorem rAdd_Q (he : ∀ w, Sat b F w → ER w e) (hew : EW e) (hd : e.deps.length ≤ 1000000) (hl : e.refs.length ≤ 1000000) :
    SC Try.prog n_p_entrepotref21_Queue_Add [.pointer (some ⟨gw, 0, none⟩), evV e, .int .i64 s] b (rqu gw n V L :: F) (fun u F' => u = .tuple ⟨[.bool (addB V L e s), .int .i64 (addE V L e s)]⟩ ∧ F' = rqu gw n V (addL V L e s) :: F) := by
  refine SC.opn ?_
  rintro ⟨v, l, M⟩ ⟨hq, hM⟩
  dsimp only at hM
  subst hM
  refine (rAdd_S hq he hew.l32 hd hl).out ?_
  rintro u _ ⟨h1, l', M', rfl, h2⟩
  exact ⟨_, rpack (hq.add hew hl) h2, h1, rfl⟩
set_option maxRecDepth 20000 in
set_option maxHeartbeats 4000000 in
theorem rDeliver_S {v l : Value} (hq : QI n V (M.map nW)) : SC Try.prog n_p_entrepotref21_Queue_Deliver [.pointer (some ⟨gw, 0, none⟩), dotP d] b (stW gw v l V M F) (fun u F' =>
    (delE V (M.map nW) d ≠ 0 ∧ u = .tuple ⟨[evV ev0, .int .i64 (delE V (M.map nW) d)]⟩ ∧ F' = stW gw v l V M F) ∨
    ∃ w M' l', w ∈ M ∧ dotW w = d ∧ leqL w.e.deps V = true ∧ M'.map nW = delW d (M.map nW) ∧ u = .tuple ⟨[evV w.e, .int .i64 0]⟩ ∧ F' = rZ w.e.dv w.e.deps :: rD w.e.rv w.e.refs :: stW gw v l' (advV V d.1 d.2) M' F) := by
  have hml := hq.mlen
  have hVl := hq.len
  have h16 := hq.n2
  refine enterS F_p_entrepotref21_Queue_Deliver rfl rfl rfl ?_
  refine sw_fact (fun w H => (H.oat (k := 1) rfl).form) ?_
  rintro ⟨Av, cv, rfl, _, _, kv⟩
  refine sw_fact (fun w H => (H.oat (k := 2) rfl).form) ?_
  rintro ⟨A, c, rfl, _, _, k4⟩
  (refine sw_seq ?_; refine sw_region ?_)
  refine so_box rfl rfl rfl rfl rfl fun g3 => ?_
  skip
  refine so_new rfl rfl rfl rfl rfl fun g4 => ?_
  refine so_ent (ent_keep 6 [2, 3, 4, 5, 0, 1] rfl rfl) ?_
  (refine so_1 rfl ?_; refine so_nil ?_; refine sn_then ?_; refine sw_seq ?_; refine sw_region ?_; refine so_1 rfl ?_; refine so_l 5 rfl rfl rfl ?_)
  refine so_call rfl rfl rfl (place_S (d := d) hq.m32 hml) ?_
  rintro u _ ⟨⟨hno, rfl⟩ | ⟨k, hk, rfl, hkd⟩, rfl⟩
  · have hE : delE V (M.map nW) d = 26 := by rw [delE, findW_M hno]
    (refine so_1 rfl ?_; refine so_nil ?_; refine sn_then ?_; refine sw_seq ?_; refine sw_block ?_; refine sw_seq ?_; refine sw_region ?_; (iterate 3 refine so_1 rfl ?_); refine so_nil ?_; refine sn_then ?_; refine sw_cond_t rfl ?_; refine sw_seq ?_; refine sw_region ?_; refine so_1 rfl ?_; refine so_s1 4 rfl rfl rfl rfl ?_; refine so_1 rfl ?_; refine so_nil ?_; refine sn_then ?_; refine sw_ret ?_; refine sn_block_ret ?_; refine sn_then_ret ?_)
    refine sn_ret rfl (.agg 4 rfl rfl rfl rfl rfl (.tmp rfl .nil)) (ent_keep 6 [0, 1, 2, 3] rfl rfl) ?_
    exact .inl ⟨by rw [hE]; decide, by rw [hE]; rfl, rfl⟩
  have hmem := List.getElem_mem hk
  have hfw : findW d (M.map nW) = some (nW M[k]) := findW_of hq.nd (List.mem_map.2 ⟨_, hmem, rfl⟩) hkd
  have hdel := delW_M hk hkd hq.mnd
  have hx32 := hq.m32 _ hmem
  obtain ⟨hxd, _⟩ := hq.md hmem
  obtain ⟨bk, off, rfl⟩ := k4 (by omega)
  have hc : ∀ G w, Sat b (stW gw (.slice Av V.length cv) (.slice (some ⟨bk, off, none⟩) M.length c) V M G) w → ∀ j, j < 40 → w.cell? ⟨bk, off + k * 40 + j, none⟩ = (waC M[k])[j]? := fun G w H j hj => M_cell (k := 2) rfl rfl rfl hq.m32 hk hj w H
  have hsplit : (wsF M).Perm (wsP M[k] ++ wsF (M.take k ++ M.drop (k + 1))) := by
    have h1 : M = M.take k ++ M[k] :: M.drop (k + 1) := by rw [← List.drop_eq_getElem_cons hk, List.take_append_drop]
    conv => lhs; rw [h1, wsF_app, wsF]
    rw [wsF_app, ← List.append_assoc, ← List.append_assoc]
    exact List.perm_append_comm.append_right _
  have hripe : leqL M[k].e.deps V = true → _ := fun h => hq.ripe (x := nW M[k]) (List.mem_map.2 ⟨_, hmem, rfl⟩) h
  have hE : delE V (M.map nW) d = if leqL M[k].e.deps V then 0 else 25 := by rw [delE, hfw]; rfl
  have hcells := wa_len hq.m32
  generalize M[k] = x at *
  (refine so_1 rfl ?_; refine so_nil ?_; refine sn_then ?_; refine sw_seq ?_; refine sw_block ?_; refine sw_seq ?_; refine sw_region ?_; (iterate 3 refine so_1 rfl ?_); refine so_nil ?_; refine sn_then ?_; refine sw_cond_f rfl ?_; refine sw_seq ?_)
  refine sw_draw flo _ (by decide +kernel) (Ent.refl _) ?_
  ((iterate 3 refine sd_1 rfl (.inl rfl) ?_); refine sd_l 0 rfl rfl rfl rfl ?_; refine sd_1 rfl (.inl rfl) ?_; refine sd_2 rfl rfl (by omega) ?_; (iterate 2 refine sd_1 rfl (.inl rfl) ?_))
  refine sd_rd rfl (fun w H => ex_load rfl rfl rfl (by rw [mulz_eq, idx_lt]; exact (hc _ w H 2 (by omega)).trans rfl)) rfl rfl ?_
  ((iterate 3 refine sd_1 rfl (.inl rfl) ?_); refine sd_l 0 rfl rfl rfl rfl ?_)
  refine sd_callE rfl rfl rfl rfl (SC.ofExt fun w H => refLeq_spec (wsF_er (k := 3) rfl hmem w H).dv (vlZ (k := 1) rfl w H) (by omega)) (Ent.refl _) ?_
  ((iterate 2 refine sd_1 rfl (.inl rfl) ?_))
  refine sd_nil ?_
  cases hlq : leqL x.e.deps V with
  | false =>
    rw [hlq, if_neg (by decide)] at hE
    (refine sn_then ?_; refine sw_cond_t rfl ?_; refine sw_seq ?_; refine sw_region ?_; refine so_1 rfl ?_; refine so_s1 4 rfl rfl rfl rfl ?_; refine so_1 rfl ?_; refine so_nil ?_; refine sn_then ?_; refine sw_ret ?_; refine sn_block_ret ?_; refine sn_then_ret ?_)
    refine sn_ret rfl (.agg 4 rfl rfl rfl rfl rfl (.tmp rfl .nil)) (ent_keep 6 [0, 1, 2, 3] rfl rfl) ?_
    exact .inl ⟨by rw [hE]; decide, by rw [hE]; rfl, rfl⟩
  | true =>
  obtain ⟨h1, h2, h3, h4, h5⟩ := hripe hlq
  have hdx : d.1 = x.e.r ∧ d.2 = x.e.n := ⟨(congrArg Prod.fst hkd).symm, (congrArg Prod.snd hkd).symm⟩
  obtain ⟨q, hqv⟩ : ∃ q : Nat, d.1 - 1 = (q : Int) := ⟨(d.1 - 1).toNat, by rw [hdx.1]; have : 1 ≤ x.e.r := h1; omega⟩
  have hql : q < V.length := by have h2' : x.e.r ≤ V.length := h2; rw [hdx.1] at hqv; omega
  obtain ⟨bv, ov, rfl⟩ := kv (by omega)
  (refine sn_then ?_; refine sw_cond_f rfl ?_; refine sw_skip ?_; refine sn_block ?_; refine sn_then ?_; refine sw_seq ?_; refine sw_region ?_; (iterate 3 refine so_1 rfl ?_); refine so_l 0 rfl rfl rfl ?_; refine so_1 rfl ?_; refine so_2 rfl (by omega) ?_; refine so_1 rfl ?_)
  refine so_rd rfl (fun w H => ex_loadN (cs := evC x.e) rfl rfl rfl (evC_len hx32) (fun j hj => by rw [evC_len hx32] at hj; rw [mulz_eq, idx_lt]; exact (hc _ w H j (by omega)).trans (wa_ev hx32 hj))) rfl ?_
  refine so_fact (fun w H => wsF_one (k := 3) rfl w H) fun hMone => ?_
  have hMones := ws_one hMone
  obtain ⟨hxo1, hxo2⟩ := hMone x hmem
  refine so_new rfl rfl rfl rfl rfl fun g7 => ?_
  refine so_stW 0 rfl rfl rfl rfl rfl rfl rfl (evC_len hx32) (evC_one hxo1 hxo2) (by rw [evC_len hx32]; rfl) ?_
  (refine so_nil ?_; refine sn_then ?_; refine sw_seq ?_)
  refine sw_draw2 flo 17 (pt gw t_entrepotref21_Queue [.slice (some ⟨bv, ov, none⟩) V.length cv, .slice (some ⟨bk, off, none⟩) M.length c] :: F) [] rfl (by decide +kernel) (ent_keep 7 [1] rfl rfl) ?_
  (refine sd_1 rfl (.inl rfl) ?_)
  refine sd_lit0 rfl rfl rfl rfl rfl rfl (ent_keep 7 [1] rfl rfl) fun g41 => ?_
  refine sd_ent (ent_blk_row (n := 0) (sz := 40) rfl rfl (by decide) 0 rfl rfl) ?_
  ((iterate 3 refine sd_1 rfl (.inl rfl) ?_); refine sd_l 0 rfl rfl rfl rfl ?_; refine sd_1 rfl (.inl rfl) ?_; refine sd_2 rfl rfl (by omega) ?_)
  refine sd_know 47 (.slice (some ⟨bk, off, none⟩) k c) rfl rfl ?_
  refine sd_append 0 rfl rfl rfl rfl rfl rfl rfl rfl rfl rfl (m := k) (news := (wssC M).take (k * 40)) (fun w H => ((H.oat (k := 4) rfl).take (by omega)).sl) (fun u hu => hMones u (List.mem_of_mem_take hu)) (by omega) (fun _ => rfl) (fun _ => ent_keep 8 [2] rfl rfl) fun v48 => ?_
  rw [Nat.zero_add k, List.nil_append, flC_take hcells]
  ((iterate 3 refine sd_1 rfl (.inl rfl) ?_); refine sd_l 0 rfl rfl rfl rfl ?_; refine sd_1 rfl (.inl rfl) ?_; refine sd_2 rfl rfl (by (unfold I64; omega)) ?_; refine sd_2 rfl rfl (by omega) ?_)
  have hi1 : ((k : Int) + 1).toNat = k + 1 := by omega
  refine sd_know 55 (.slice (if c = k + 1 then (some ⟨bk, off, none⟩ : Option Addr) else (some ⟨bk, off, none⟩ : Option Addr).map (·.add ((k + 1) * 40))) (M.length - (k + 1)) (c - (k + 1))) rfl (by rw [hi1]) ?_
  refine sd_append 0 rfl rfl rfl rfl rfl rfl rfl rfl rfl rfl (row_drop_sl (k := 4) rfl (by omega)) (fun u hu => hMones u (List.mem_of_mem_drop hu)) (by omega) (fun _ => rfl) (fun _ => ent_keep 8 [2] rfl rfl) fun v56 => ?_
  rw [flC_drop hcells, ← flC_app]
  refine sd_fact (fun w H => (H.oat (k := 0) rfl).form) ?_
  rintro ⟨A7, c7, rfl, _, _, _⟩
  skip
  refine sd_nil (sn_draw2 rfl (ent_nil _) ?_)
  ((iterate 2 refine sd_1 rfl (.inl rfl) ?_))
  refine sd_st 2 rfl rfl rfl rfl rfl rfl rfl rfl rfl rfl rfl (ent_nil _) ?_
  refine sd_nil ?_
  (refine sn_then ?_; refine sw_seq ?_)
  have hq1 : (d.1 - 1).toNat = q := by omega
  have hsetV : spl (ints V) q [.int .i64 d.2] = ints (advV V d.1 d.2) := by
    have e : ∀ l : List Int, flC (fun x : Int => [Value.int .i64 x]) l = ints l := fun l => by
      induction l with
      | nil => rfl
      | cons x l ih => simp only [flC, ih]; rfl
    have := flC_set (f := fun x : Int => [Value.int .i64 x]) (l := V) (sz := 1) (fun _ _ => rfl) (i := q) (x := d.2) rfl hql
    rw [e, e, Nat.mul_one] at this
    rw [advV, hq1]; exact this
  refine sw_draw2 flo 10 _ [] rfl (by decide +kernel) (Ent.refl _) ?_
  ((iterate 3 refine sd_1 rfl (.inl rfl) ?_); refine sd_l 2 rfl rfl rfl rfl ?_; refine sd_1 rfl (.inl rfl) ?_; refine sd_l 7 rfl rfl rfl rfl ?_; refine sd_2 rfl rfl (by (unfold I64; omega)) ?_; refine sd_1 rfl (.inl rfl) ?_; refine sd_l 7 rfl rfl rfl rfl ?_; refine sd_2 rfl rfl (by omega) ?_)
  refine sd_nil (sn_draw2 rfl (ent_nil _) ?_)
  refine sd_strow 3 q rfl rfl rfl rfl rfl rfl rfl rfl rfl hsetV rfl (by rw [mulz_eq, hq1, Nat.mul_one]) (by simp [ints]; omega) (by simp [Value.oneCell']) (ent_nil _) ?_
  refine sd_nil ?_
  (refine sn_then ?_; refine sw_seq ?_; refine sw_region ?_)
  refine so_ldA 1 rfl rfl rfl rfl rfl rfl (segO_all (by rw [evC_len hx32]; rfl)) rfl ?_
  refine so_stW 6 rfl rfl rfl rfl rfl rfl rfl (evC_len hx32) (evC_one hxo1 hxo2) (by rw [evC_len hx32]; rfl) ?_
  (refine so_1 rfl ?_; refine so_nil ?_; refine sn_then ?_; refine sw_ret ?_)
  have hlen2 : (M.take k ++ M.drop (k + 1)).length = k + (M.length - (k + 1)) := by simp; omega
  have hVlen : (advV V d.1 d.2).length = V.length := by simp [advV]
  refine sn_ret rfl (.whole 6 rfl rfl rfl rfl (by rw [evC_len hx32]; rfl) (.tmp rfl .nil)) ((ent_keep 8 [5, 0, 2, 3] rfl rfl).trans ((ent_out (A := wsF M) (B := wsP x) (C := wsF (M.take k ++ M.drop (k + 1))) hsplit).trans (ent_keep 6 [0, 1, 4, 5, 3, 2] rfl rfl))) ?_
  refine .inr ⟨x, M.take k ++ M.drop (k + 1), .slice A7 (k + (M.length - (k + 1))) c7, hmem, hkd, hlq, hdel.symm, rfl, ?_⟩
  simp only [stW, rWs, rZ, hlen2, hVlen]
end
end Go.Proofs.Ytgkhflcpbjlmiaa
/- Queues, part twenty-eight: the document's queue: Deliver, Own; both queues at once. Conditions: not too many. -/
namespace Go.Proofs.Ytgkhflcpbjlmiaa
open Go.Eng Go.RowKit Go.WideMaps Go.Heap

section
variable {b : World} {F : List SP} {gw n : Nat} {V : List Int} {L M : List Wn} {e : Ev} {s : Int} {d : Int × Int}
theorem rDeliver_Q : SC Try.prog n_p_entrepotref21_Queue_Deliver [.pointer (some ⟨gw, 0, none⟩), dotP d] b (rqu gw n V L :: F) (fun u F' =>
    (delE V L d ≠ 0 ∧ u = .tuple ⟨[evV ev0, .int .i64 (delE V L d)]⟩ ∧ F' = rqu gw n V L :: F) ∨
    ∃ x w, findW d L = some x ∧ leqL x.e.deps V = true ∧ nW w = x ∧ u = .tuple ⟨[evV w.e, .int .i64 0]⟩ ∧ F' = rZ w.e.dv w.e.deps :: rD w.e.rv w.e.refs :: rqu gw n (advV V d.1 d.2) (delW d L) :: F) := by
  refine SC.opn ?_
  rintro ⟨v, l, M⟩ ⟨hq, hM⟩
  dsimp only at hM
  subst hM
  refine (rDeliver_S hq).out ?_
  rintro u _ (⟨h1, h2, rfl⟩ | ⟨w, M', l', h1, h2, h3, h4, h5, rfl⟩)
  · exact ⟨_, rpack hq rfl, .inl ⟨h1, h2, rfl⟩⟩
  · have hmem : nW w ∈ M.map nW := List.mem_map.2 ⟨w, h1, rfl⟩
    have hqd : QI n (advV V d.1 d.2) (delW d (M.map nW)) := by
      have := hq.del hmem h3
      rw [← h2]; exact this
    exact ⟨_, ent_cons (ent_cons (rpack hqd h4)), .inr ⟨nW w, w, findW_of hq.nd hmem h2, h3, rfl, h5, rfl⟩⟩
set_option maxRecDepth 20000 in
set_option maxHeartbeats 4000000 in
theorem rOwn_S {v l : Value} {r : Int} (hr : I64 r) (hq : QI n V (M.map nW)) : SC Try.prog n_p_entrepotref21_Queue_Own [.pointer (some ⟨gw, 0, none⟩), .int .i64 r] b (stW gw v l V M F) (fun u F' =>
    u = .tuple ⟨[dotP (ownD V (M.map nW) r), .int .i64 (ownE V (M.map nW) r)]⟩ ∧ ∃ v', F' = stW gw v' l (ownV V (M.map nW) r) M F) := by
  have hVn := hq.len
  have h16 := hq.n2
  have hml := hq.mlen
  have e0 : ∀ {k : Int}, ownE V (M.map nW) r = k → k ≠ 0 → ownD V (M.map nW) r = (0, 0) ∧ ownV V (M.map nW) r = V := fun h1 h2 => by rw [ownD, ownV, h1, if_neg h2, if_neg h2]; exact ⟨rfl, rfl⟩
  refine enterS F_p_entrepotref21_Queue_Own rfl rfl rfl ?_
  refine sw_fact (fun w H => (H.oat (k := 1) rfl).form) ?_
  rintro ⟨A1, c1, rfl, _, _, k1⟩
  (refine sw_seq ?_; refine sw_region ?_)
  refine so_new rfl rfl rfl rfl rfl fun g4 => ?_
  refine so_ent (ent_keep 5 [1, 2, 3, 4, 0] rfl rfl) ?_
  (refine so_1 rfl ?_; refine so_nil ?_; refine sn_then ?_; (iterate 2 refine sw_seq ?_); refine sw_region ?_; (iterate 3 refine so_1 rfl ?_))
  by_cases hr1 : r < 1 ∨ (V.length : Int) < r
  · have hE : ownE V (M.map nW) r = 3 := by rw [ownE, if_pos hr1]
    obtain ⟨hD, hV'⟩ := e0 hE (by decide)
    have fin : (∃ v', stW gw (.slice A1 V.length c1) l V M F = stW gw v' l (ownV V (M.map nW) r) M F) := by rw [hV']; exact ⟨_, rfl⟩
    by_cases h1 : r < 1
    · refine so_know 9 (.bool true) rfl (congrArg Value.bool (decide_eq_true h1)) ?_
      ((iterate 8 refine so_1 rfl ?_); refine so_nil ?_; refine sn_then ?_; refine sw_cond_t rfl ?_; refine sw_seq ?_; refine sw_region ?_; refine so_1 rfl ?_; refine so_s1 4 rfl rfl rfl rfl ?_; refine so_1 rfl ?_; refine so_nil ?_; refine sn_then ?_; refine sw_ret ?_; refine sn_then_ret ?_)
      refine sn_ret rfl (.agg 4 rfl rfl rfl rfl rfl (.tmp rfl .nil)) (ent_keep 5 [0, 1, 2, 3] rfl rfl) ?_
      exact ⟨by rw [hE, hD]; rfl, fin⟩
    · refine so_know 9 (.bool false) rfl (congrArg Value.bool (decide_eq_false h1)) ?_
      ((iterate 4 refine so_1 rfl ?_); refine so_l 0 rfl rfl rfl ?_; (iterate 3 refine so_1 rfl ?_); refine so_nil ?_; refine sn_then ?_)
      refine sw_know 17 (.bool true) rfl (congrArg Value.bool (decide_eq_true (by omega))) ?_
      (refine sw_cond_t rfl ?_; refine sw_seq ?_; refine sw_region ?_; refine so_1 rfl ?_; refine so_s1 4 rfl rfl rfl rfl ?_; refine so_1 rfl ?_; refine so_nil ?_; refine sn_then ?_; refine sw_ret ?_; refine sn_then_ret ?_)
      refine sn_ret rfl (.agg 4 rfl rfl rfl rfl rfl (.tmp rfl .nil)) (ent_keep 5 [0, 1, 2, 3] rfl rfl) ?_
      exact ⟨by rw [hE, hD]; rfl, fin⟩
  · refine so_know 9 (.bool false) rfl (congrArg Value.bool (decide_eq_false (by omega))) ?_
    ((iterate 4 refine so_1 rfl ?_); refine so_l 0 rfl rfl rfl ?_; (iterate 3 refine so_1 rfl ?_); refine so_nil ?_; refine sn_then ?_)
    refine sw_know 17 (.bool false) rfl (congrArg Value.bool (decide_eq_false (by omega))) ?_
    (refine sw_cond_f rfl ?_; refine sw_skip ?_; refine sn_then ?_; refine sw_seq ?_; refine sw_region ?_; (iterate 4 refine so_1 rfl ?_); refine so_l 0 rfl rfl rfl ?_; refine so_1 rfl ?_; refine so_2 rfl (by (unfold I64; omega)) ?_)
    obtain ⟨k, hk⟩ : ∃ k : Nat, r - 1 = (k : Int) := ⟨(r - 1).toNat, by omega⟩
    have hkl : k < V.length := by omega
    have hkt : (r - 1).toNat = k := by omega
    obtain ⟨bk, off, rfl⟩ := k1 (by omega)
    have hvk := hq.num _ (List.getElem_mem hkl)
    have hat : atL V r = V[k] := by
      rw [atL, if_pos (by omega), hkt, nn_in hkl]; omega
    have hvk' : V[k] = atL V r := hat.symm
    (refine so_2 rfl (by omega) ?_)
    refine so_rd rfl (fun w H => ex_load rfl rfl rfl (by rw [mulz_eq, hkt, Nat.mul_one]; exact VL.at (vlZ (k := 1) rfl w H) k hkl)) rfl ?_
    rw [hvk'] at hvk ⊢
    have h0 := atL_nonneg V r
    (refine so_2 rfl (by (unfold I64; omega)) ?_; refine so_1 rfl ?_)
    refine so_new rfl rfl rfl rfl rfl fun g6 => ?_
    (refine so_s1 0 rfl rfl rfl rfl ?_; refine so_nil ?_; refine sn_then ?_; refine sw_seq ?_; refine sw_block ?_; refine sw_seq ?_; refine sw_region ?_; refine so_1 rfl ?_; refine so_l 0 rfl rfl rfl ?_; (iterate 2 refine so_1 rfl ?_); refine so_nil ?_; refine sn_then ?_)
    by_cases h3 : 1048576 ≤ atL V r
    · have hE : ownE V (M.map nW) r = 10 := by rw [ownE, if_neg hr1, if_pos h3]
      obtain ⟨hD, hV'⟩ := e0 hE (by decide)
      refine sw_know 30 (.bool true) rfl (congrArg Value.bool (decide_eq_true (by omega))) ?_
      (refine sw_cond_t rfl ?_; refine sw_seq ?_; refine sw_region ?_; refine so_1 rfl ?_; refine so_s1 5 rfl rfl rfl rfl ?_; refine so_1 rfl ?_; refine so_nil ?_; refine sn_then ?_; refine sw_ret ?_; refine sn_block_ret ?_; refine sn_then_ret ?_)
      refine sn_ret rfl (.agg 5 rfl rfl rfl rfl rfl (.tmp rfl .nil)) (ent_keep 6 [1, 2, 3, 4] rfl rfl) ?_
      exact ⟨by rw [hE, hD]; rfl, by rw [hV']; exact ⟨_, rfl⟩⟩
    · refine sw_know 30 (.bool false) rfl (congrArg Value.bool (decide_eq_false (by omega))) ?_
      (refine sw_cond_f rfl ?_; refine sw_seq ?_; refine sw_region ?_; refine so_1 rfl ?_; refine so_l 0 rfl rfl rfl ?_)
      refine so_ent (ent_keep 6 [1, 2, 3, 4, 5, 0] rfl rfl) ?_
      refine so_call rfl rfl rfl (place_S (d := (r, atL V r + 1)) hq.m32 hml) ?_
      rintro u _ ⟨⟨hno, rfl⟩ | ⟨q, hqk, rfl, hqd⟩, rfl⟩
      · have hfw := findW_M hno
        have hE : ownE V (M.map nW) r = 0 := by rw [ownE, if_neg hr1, if_neg h3, hfw]; rfl
        have hD : ownD V (M.map nW) r = (r, atL V r + 1) := by rw [ownD, if_pos hE]
        have hV' : ownV V (M.map nW) r = advV V r (atL V r + 1) := by rw [ownV, if_pos hE]
        have hsetV : spl (ints V) k [.int .i64 (atL V r + 1)] = ints (advV V r (atL V r + 1)) := by
          have e : ∀ l : List Int, flC (fun x : Int => [Value.int .i64 x]) l = ints l := fun l => by
            induction l with
            | nil => rfl
            | cons x l ih => simp only [flC, ih]; rfl
          have := flC_set (f := fun x : Int => [Value.int .i64 x]) (l := V) (sz := 1) (fun _ _ => rfl) (i := k) (x := atL V r + 1) rfl hkl
          rw [e, e, Nat.mul_one] at this
          rw [advV, hkt]; exact this
        ((iterate 2 refine so_1 rfl ?_); refine so_nil ?_; refine sn_then ?_; refine sw_cond_f rfl ?_; refine sw_skip ?_; refine sn_block ?_; refine sn_then ?_; refine sw_seq ?_)
        refine sw_draw2 flo 9 _ [] rfl (by decide +kernel) (Ent.refl _) ?_
        ((iterate 3 refine sd_1 rfl (.inl rfl) ?_); refine sd_l 0 rfl rfl rfl rfl ?_; refine sd_1 rfl (.inl rfl) ?_; refine sd_2 rfl rfl (by (unfold I64; omega)) ?_; refine sd_1 rfl (.inl rfl) ?_; refine sd_l 5 rfl rfl rfl rfl ?_; refine sd_2 rfl rfl (by omega) ?_)
        refine sd_nil (sn_draw2 rfl (ent_nil _) ?_)
        refine sd_strow 1 k rfl rfl rfl rfl rfl rfl rfl rfl rfl hsetV rfl (by rw [mulz_eq, hkt, Nat.mul_one]) (by simp [ints]; omega) (by simp [Value.oneCell']) (ent_nil _) ?_
        refine sd_nil ?_
        (refine sn_then ?_; refine sw_seq ?_; refine sw_region ?_; refine so_l 5 rfl rfl rfl ?_; refine so_s1 4 rfl rfl rfl rfl ?_; refine so_1 rfl ?_; refine so_nil ?_; refine sn_then ?_; refine sw_ret ?_)
        have hVlen : (advV V r (atL V r + 1)).length = V.length := by simp [advV]
        refine sn_ret rfl (.agg 4 rfl rfl rfl rfl rfl (.tmp rfl .nil)) (ent_keep 6 [0, 1, 2, 3] rfl rfl) ?_
        exact ⟨by rw [hE, hD]; rfl, by rw [hV']; exact ⟨.slice (some ⟨bk, off, none⟩) V.length c1, by simp only [stW, rZ, hVlen]⟩⟩
      · have hfw : findW (r, atL V r + 1) (M.map nW) = some (nW M[q]) := findW_of hq.nd (List.mem_map.2 ⟨_, List.getElem_mem hqk, rfl⟩) hqd
        have hE : ownE V (M.map nW) r = 19 := by rw [ownE, if_neg hr1, if_neg h3, hfw]; rfl
        obtain ⟨hD, hV'⟩ := e0 hE (by decide)
        ((iterate 2 refine so_1 rfl ?_); refine so_nil ?_; refine sn_then ?_; refine sw_cond_t rfl ?_; refine sw_seq ?_; refine sw_region ?_; refine so_1 rfl ?_; refine so_s1 4 rfl rfl rfl rfl ?_; refine so_1 rfl ?_; refine so_nil ?_; refine sn_then ?_; refine sw_ret ?_; refine sn_block_ret ?_; refine sn_then_ret ?_)
        refine sn_ret rfl (.agg 4 rfl rfl rfl rfl rfl (.tmp rfl .nil)) (ent_keep 6 [0, 1, 2, 3] rfl rfl) ?_
        exact ⟨by rw [hE, hD]; rfl, by rw [hV']; exact ⟨_, rfl⟩⟩
theorem QI.own {r : Int} (hq : QI n V L) : QI n (ownV V L r) L := by
  unfold ownV
  split
  · rename_i h
    have hr1 : ¬ (r < 1 ∨ (V.length : Int) < r) := fun hc => by rw [ownE, if_pos hc] at h; exact absurd h (by decide)
    have h3 : ¬ 1048576 ≤ atL V r := fun hc => by rw [ownE, if_neg hr1, if_pos hc] at h; exact absurd h (by decide)
    have hfw : findW (r, atL V r + 1) L = none := by
      cases hf : findW (r, atL V r + 1) L with
      | none => rfl
      | some x => rw [ownE, if_neg hr1, if_neg h3, hf] at h; exact absurd h (by simp)
    have h0 := atL_nonneg V r
    refine hq.adv (by omega) (by omega) (by omega) (by omega) (List.Sublist.refl _) fun w hw hwr => ?_
    have h6 := of_decide_eq_true (hq.fit w hw)
    have h7 : 1 ≤ w.e.r ∧ 1 ≤ w.e.n := ⟨h6.2.2.1, h6.2.2.2.2.1⟩
    have h8 := hq.new w hw
    simp only [hasL, decide_eq_true h7.1, decide_eq_true h7.2, Bool.true_and, decide_eq_false_iff_not] at h8
    rw [hwr] at h8
    have h9 : w.e.n ≠ atL V r + 1 := fun hc => findW_none hfw w hw (by rw [dotW, hwr, hc])
    omega
  · exact hq
theorem rOwn_Q {r : Int} (hr : I64 r) : SC Try.prog n_p_entrepotref21_Queue_Own [.pointer (some ⟨gw, 0, none⟩), .int .i64 r] b (rqu gw n V L :: F) (fun u F' =>
    u = .tuple ⟨[dotP (ownD V L r), .int .i64 (ownE V L r)]⟩ ∧ F' = rqu gw n (ownV V L r) L :: F) := by
  refine SC.opn ?_
  rintro ⟨v, l, M⟩ ⟨hq, hM⟩
  dsimp only at hM
  subst hM
  refine (rOwn_S hr hq).out ?_
  rintro u _ ⟨h1, v', rfl⟩
  exact ⟨_, rpack hq.own rfl, h1, rfl⟩
end
end Go.Proofs.Ytgkhflcpbjlmiaa
