/- Queues, part twenty-nine: both queues at once: delivers, stands. Conditions: none. -/
import Derived.Test.YtgkhflcpbjlmiaaK6
import Derived.Test.YtgkhflcpbjlmiaaK5
import Derived.Test.YtgkhflcpbjlmiaaK3
namespace Go.Proofs.Ytgkhflcpbjlmiaa
open Go.Eng Go.RowKit Go.WideMaps Go.Heap

theorem delE_ok {V : List Int} {L : List Wn} {d : Int × Int} {x : Wn} (h1 : findW d L = some x) (h2 : leqL x.e.deps V = true) : delE V L d = 0 := by rw [delE, h1]; exact if_pos h2
def delV (V : List Int) (L : List Wn) (d : Int × Int) : List Int := if delE V L d = 0 then advV V d.1 d.2 else V
def delLs (V : List Int) (L : List Wn) (d : Int × Int) : List Wn := if delE V L d = 0 then delW d L else L
theorem EW.of_nW {w x : Wn} (h : nW w = x) (hx : EW x.e) : EW w.e := by
  subst h
  exact ⟨hx.id, hx.dot, hx.rf, hx.kind, hx.dp, hx.rs, hx.ts⟩
theorem ev0_ew : EW ev0 := ⟨⟨rfl, fun x hx => by rw [(List.mem_replicate.1 hx).2]; decide⟩, ⟨by decide, by decide⟩, fun x hx => by simp at hx, (by unfold I64; decide), fun x hx => by simp at hx, by decide, by decide⟩
theorem nil_er (w : World) : ER w ev0 := ⟨VL.nil _ w, ⟨none, 0, rfl, rfl, Nat.le_refl _, by decide, fun _ => rfl, fun h => absurd h (by decide)⟩⟩
section
variable {b : World} {F : List SP} {gq gw n : Nat} {V : List Int} {L M : List Wn} {e : Ev} {s : Int} {d : Int × Int} {gl : Nat}
theorem ent_ev1 (h : e.id.length = 32) : Ent (pt gl t_api_Event (evC e) :: rZ e.dv e.deps :: rD e.rv e.refs :: F) (rEs (.slice (some ⟨gl, 0, none⟩) 1 1) [e] :: all (evF [e]) :: F) := by
  have e1 : evsC [e] = evC e := by simp [flC]
  rw [rEs, e1]
  exact (ent_blk_row (n := 1) (sz := 39) rfl (by rw [evC_len h]) (by decide) 0 rfl rfl).trans (ent_cons (ent_close (G := evF [e])))
theorem ent_wa1 (h : e.id.length = 32) : Ent (pt gl t_api_Waiting (wsC e s) :: rZ e.dv e.deps :: rD e.rv e.refs :: F) (rWs (.slice (some ⟨gl, 0, none⟩) 1 1) [⟨0, e, s⟩] :: all (wsF [⟨0, e, s⟩]) :: F) := by
  have e1 : wssC [(⟨0, e, s⟩ : Wn)] = wsC e s := by simp [flC]
  rw [rWs, e1]
  exact (ent_blk_row (n := 1) (sz := 40) rfl (by rw [wsC_len h]) (by decide) 0 rfl rfl).trans (ent_cons (ent_close (G := wsF [⟨0, e, s⟩])))
theorem ent_nil2 : Ent F (rZ (.slice none 0 0) [] :: rD (.slice none 0 0) [] :: F) := (ent_row_nil t_api_ID 32 rfl).trans (ent_row_nil t_int 1 rfl)
/-- An event of its own, in a list, is written over. -/
theorem over1_S (hw : EW e) (hd : e.deps.length ≤ 1000000 ∧ e.refs.length ≤ 1000000) : SC Try.prog n_entrepotkit_OverEvents [.slice (some ⟨gl, 0, none⟩) 1 1] b (pt gl t_api_Event (evC e) :: rZ e.dv e.deps :: rD e.rv e.refs :: F) (fun _ F' => F' = F) :=
  (OverEvents_D (v := .slice (some ⟨gl, 0, none⟩) 1 1) (l := [e]) (fun x hx => by rw [List.mem_singleton.1 hx]; exact ⟨hw.l32, hw.r32⟩) (fun x hx => by rw [List.mem_singleton.1 hx]; exact hd) (by simp)).ent (ent_ev1 hw.l32)
theorem overW_S (hw : EW e) (hd : e.deps.length ≤ 1000000 ∧ e.refs.length ≤ 1000000) : SC Try.prog n_entrepotkit_OverWaiting [.slice (some ⟨gl, 0, none⟩) 1 1] b (pt gl t_api_Waiting (wsC e s) :: rZ e.dv e.deps :: rD e.rv e.refs :: F) (fun _ F' => F' = F) :=
  (OverWaiting_D (v := .slice (some ⟨gl, 0, none⟩) 1 1) (l := [⟨0, e, s⟩]) (fun x hx => by rw [List.mem_singleton.1 hx]; exact ⟨hw.l32, hw.r32⟩) (fun x hx => by rw [List.mem_singleton.1 hx]; exact hd) (by simp)).ent (ent_wa1 hw.l32)
theorem que_qi {k : Nat} (hk : nth F k = some (que gq n V L)) : ∀ w, Sat b F w → QI n V L := fun w H => by
  obtain ⟨h1, _, s, hs, _⟩ := H.mem.get hk
  exact hs.1
theorem QI.lds (hq : QI n V L) {x : Wn} (hx : x ∈ L) : x.e.deps.length ≤ 1000000 ∧ x.e.refs.length ≤ 1000000 := by
  have h1 := of_decide_eq_true (hq.fit x hx)
  have h7 : x.e.deps.length = n := h1.2.2.2.2.2.2.1
  have h16 := hq.n2
  exact ⟨by omega, hq.rf x hx⟩
theorem ER.of_rows {i j : Nat} (hi : nth F i = some (rZ e.dv e.deps)) (hj : nth F j = some (rD e.rv e.refs)) : ∀ w, Sat b F w → ER w e := fun w H => ⟨vlZ hi w H, (H.oat hj).sl⟩
set_option maxRecDepth 20000 in
set_option maxHeartbeats 4000000 in
theorem delivers_S (hd : dotOk d) : SC Try.prog n_entrepotlaw21_delivers [.pointer (some ⟨gq, 0, none⟩), .pointer (some ⟨gw, 0, none⟩), dotP d] b (que gq n V L :: rqu gw n V L :: F) (fun u F' => u = .bool true ∧ F' = que gq n (delV V L d) (delLs V L d) :: rqu gw n (delV V L d) (delLs V L d) :: F) := by
  refine enterS F_entrepotlaw21_delivers rfl rfl rfl ?_
  refine sw_fact (que_qi (k := 0) rfl) fun hq => ?_
  (refine sw_seq ?_; refine sw_region ?_)
  refine so_box rfl rfl rfl rfl rfl fun g5 => ?_
  (refine so_1 rfl ?_; refine so_nil ?_; refine sn_then ?_; refine sw_seq ?_; refine sw_region ?_; refine so_1 rfl ?_; refine so_l 0 rfl rfl rfl ?_)
  refine so_ent (ent_keep 3 [1, 2, 0] rfl rfl) ?_
  refine so_call rfl rfl rfl (Deliver_Q hd) ?_
  rintro _ _ (⟨h1, rfl, rfl⟩ | ⟨x, w, h1, h2, h3, rfl, rfl⟩)
  · have hV : delV V L d = V := if_neg h1
    have hL : delLs V L d = L := if_neg h1
    ((iterate 3 refine so_1 rfl ?_))
    refine so_new rfl rfl rfl rfl rfl fun g7 => ?_
    (refine so_s1 0 rfl rfl rfl rfl ?_; refine so_1 rfl ?_; refine so_nil ?_; refine sn_then ?_; refine sw_seq ?_; refine sw_region ?_; refine so_1 rfl ?_; refine so_l 3 rfl rfl rfl ?_)
    refine so_ent (ent_keep 4 [2, 1, 3, 0] rfl rfl) ?_
    refine so_call rfl rfl rfl (rDeliver_Q) ?_
    rintro _ _ (⟨_, rfl, rfl⟩ | ⟨x, w, h3, h4, _⟩)
    rotate_left
    · exact absurd (delE_ok h3 h4) h1
    ((iterate 3 refine so_1 rfl ?_))
    refine so_new rfl rfl rfl rfl rfl fun g9 => ?_
    (refine so_s1 0 rfl rfl rfl rfl ?_; refine so_1 rfl ?_; refine so_nil ?_; refine sn_then ?_; refine sw_seq ?_; refine sw_region ?_; refine so_l 4 rfl rfl rfl ?_; refine so_l 0 rfl rfl rfl ?_)
    refine so_callE rfl rfl rfl (SameEvent_S (e := ev0) (f := ev0) rfl (fun w _ => nil_er w) (fun w _ => nil_er w) rfl (fun x hx => by simp at hx) (by decide)) ?_
    ((iterate 6 refine so_1 rfl ?_); refine so_nil ?_; refine sn_then ?_; refine sw_seq ?_; refine sw_region ?_; refine so_l 4 rfl rfl rfl ?_)
    refine so_know 31 (.bool true) rfl (by simp) ?_
    skip
    refine so_lit1 rfl rfl rfl rfl rfl rfl rfl rfl (by decide) fun gl => ?_
    refine so_ent ((ent_keep 6 [0, 2, 3, 4, 1, 5] rfl rfl : Ent _ (pt gl t_api_Event (evC ev0) :: rqu gw n V L :: que gq n V L :: pt g5 t_api_Dot [.int .i64 d.1, .int .i64 d.2] :: _ :: _ :: F)).trans ((ent_nil2).trans (ent_keep 3 [2, 0, 1] rfl rfl))) ?_
    refine so_call rfl rfl rfl (over1_S (e := ev0) ev0_ew ⟨by decide, by decide⟩) ?_
    rintro _ _ rfl
    (refine so_nil ?_; refine sn_then ?_; refine sw_seq ?_; refine sw_region ?_; (iterate 2 refine so_1 rfl ?_); refine so_nil ?_; refine sn_then ?_; refine sw_ret ?_)
    rw [hV, hL]
    refine sn_ret rfl (.tmp rfl .nil) (ent_keep 5 [1, 0] rfl rfl) ?_
    exact ⟨by simp [tupl], rfl⟩
  · have h0 := delE_ok h1 h2
    have hV : delV V L d = advV V d.1 d.2 := if_pos h0
    have hL : delLs V L d = delW d L := if_pos h0
    have hxL := (findW_some h1).1
    have hxe := hq.ew x hxL
    obtain ⟨hx1, hx2⟩ := hq.lds hxL
    have hwe := EW.of_nW h3 hxe
    refine so_fact (p := w.e.dv.oneCell' = true ∧ w.e.rv.oneCell' = true) (fun W H => ?_) fun hone => ?_
    · obtain ⟨A, c, hv, _⟩ := (ER.of_rows (e := w.e) (i := 0) (j := 1) rfl rfl W H).dv.form
      obtain ⟨A2, c2, hv2, _⟩ := sl_form (ER.of_rows (e := w.e) (i := 0) (j := 1) rfl rfl W H).rv
      rw [hv, hv2]; exact ⟨rfl, rfl⟩
    have hw32 := hwe.l32
    have hw1 : w.e.deps.length ≤ 1000000 := by rw [← h3] at hx1; exact hx1
    have hw2 : w.e.refs.length ≤ 1000000 := by rw [← h3] at hx2; exact hx2
    ((iterate 3 refine so_1 rfl ?_))
    refine so_new rfl rfl rfl rfl rfl fun g7 => ?_
    refine so_stW 0 rfl rfl rfl rfl rfl rfl rfl (evC_len hw32) (evC_one hone.1 hone.2) (by rw [evC_len hw32]; rfl) ?_
    (refine so_1 rfl ?_; refine so_nil ?_; refine sn_then ?_; refine sw_seq ?_; refine sw_region ?_; refine so_1 rfl ?_; refine so_l 5 rfl rfl rfl ?_)
    refine so_call rfl rfl rfl ((rDeliver_Q (gw := gw) (n := n) (V := V) (L := L) (d := d)).ent (ent_keep 6 [4, 0, 1, 2, 3, 5] rfl rfl)) ?_
    rintro _ _ (⟨h4, _⟩ | ⟨x', w', h4, h5, h6, rfl, rfl⟩)
    · exact absurd h0 h4
    obtain rfl : x = x' := Option.some.inj (h1.symm.trans h4)
    have heq : nE w.e = nE w'.e := (nW_eq (h3.trans h6.symm)).1
    have hwe' := EW.of_nW h6 hxe
    refine so_fact (p := w'.e.dv.oneCell' = true ∧ w'.e.rv.oneCell' = true) (fun W H => ?_) fun hone' => ?_
    · obtain ⟨A, c, hv, _⟩ := (ER.of_rows (e := w'.e) (i := 0) (j := 1) rfl rfl W H).dv.form
      obtain ⟨A2, c2, hv2, _⟩ := sl_form (ER.of_rows (e := w'.e) (i := 0) (j := 1) rfl rfl W H).rv
      rw [hv, hv2]; exact ⟨rfl, rfl⟩
    have hw32' := hwe'.l32
    ((iterate 3 refine so_1 rfl ?_))
    refine so_new rfl rfl rfl rfl rfl fun g9 => ?_
    refine so_stW 0 rfl rfl rfl rfl rfl rfl rfl (evC_len hw32') (evC_one hone'.1 hone'.2) (by rw [evC_len hw32']; rfl) ?_
    (refine so_1 rfl ?_; refine so_nil ?_; refine sn_then ?_; refine sw_seq ?_; refine sw_region ?_)
    refine so_ldA 4 rfl rfl rfl rfl rfl rfl (segO_all (by rw [evC_len hw32]; rfl)) rfl ?_
    refine so_ldA 0 rfl rfl rfl rfl rfl rfl (segO_all (by rw [evC_len hw32']; rfl)) rfl ?_
    refine so_callE rfl rfl rfl (SameEvent_S heq (ER.of_rows (i := 5) (j := 6) rfl rfl) (ER.of_rows (i := 1) (j := 2) rfl rfl) hw32 hwe.r32 hw2) ?_
    ((iterate 6 refine so_1 rfl ?_); refine so_nil ?_; refine sn_then ?_; refine sw_seq ?_; refine sw_region ?_)
    refine so_ldA 4 rfl rfl rfl rfl rfl rfl (segO_all (by rw [evC_len hw32]; rfl)) rfl ?_
    refine so_lit1 rfl rfl rfl rfl rfl rfl rfl (evC_len hw32) (by decide) fun gl => ?_
    refine so_call rfl rfl rfl ((over1_S (e := w.e) (F := que gq n (advV V d.1 d.2) (delW d L) :: rqu gw n (advV V d.1 d.2) (delW d L) :: F) hwe ⟨hw1, hw2⟩).ent (ent_keep 10 [0, 6, 7, 8, 4] rfl rfl)) ?_
    rintro _ _ rfl
    (refine so_nil ?_; refine sn_then ?_; refine sw_seq ?_; refine sw_region ?_; (iterate 2 refine so_1 rfl ?_); refine so_nil ?_; refine sn_then ?_; refine sw_ret ?_)
    rw [hV, hL]
    refine sn_ret rfl (.tmp rfl .nil) (Ent.refl _) ?_
    exact ⟨rfl, rfl⟩
end
end Go.Proofs.Ytgkhflcpbjlmiaa
/- Queues, part thirty: both queues stand alike. Conditions: none. -/
namespace Go.Proofs.Ytgkhflcpbjlmiaa
open Go.Eng Go.RowKit Go.WideMaps Go.Heap

def holdsW (d : Int × Int) (L : List Wn) : Ev × Int × Bool := match findW d L with
  | none => (nE ev0, 0, false)
  | some x => (nE x.e, x.src, true)
structure Hs (d : Int × Int) (L : List Wn) (y : Ev) (s : Int) (is : Bool) : Prop where
  eq : (nE y, s, is) = holdsW d L
  ew : EW y
  ln : y.deps.length ≤ 1000000 ∧ y.refs.length ≤ 1000000
section
variable {b : World} {F : List SP} {gq gw n : Nat} {V : List Int} {L M : List Wn} {e : Ev} {s : Int} {d : Int × Int} {gl : Nat}
theorem hs_some (hq : QI n V L) {x : Wn} (h : findW d L = some x) (dv rv : Value) : Hs d L (x.e.own dv rv) x.src true :=
  ⟨by rw [holdsW, h]; rfl, (hq.ew x (findW_some h).1).own dv rv, hq.lds (findW_some h).1⟩
theorem hs_none (h : findW d L = none) : Hs d L ev0 0 false := ⟨by rw [holdsW, h], ev0_ew, by decide, by decide⟩
theorem Holds_U (hd : dotOk d) (hq : QI n V L) : SC Try.prog n_p_hold_Queue_Holds [.pointer (some ⟨gq, 0, none⟩), dotP d] b (que gq n V L :: F) (fun u F' => ∃ y s is, Hs d L y s is ∧ u = .tuple ⟨[.agg ⟨wsC y s⟩, .bool is]⟩ ∧ F' = rZ y.dv y.deps :: rD y.rv y.refs :: que gq n V L :: F) := by
  refine (Holds_Q hd).out ?_
  rintro u _ (⟨h1, h2, rfl⟩ | ⟨x, dv, rv, h1, h2, rfl⟩)
  · exact ⟨_, ent_nil2, ev0, 0, false, hs_none h1, h2, rfl⟩
  · exact ⟨_, Ent.refl _, x.e.own dv rv, x.src, true, hs_some hq h1 dv rv, h2, rfl⟩
theorem rHolds_U {v l : Value} (hq : QI n V (M.map nW)) : SC Try.prog n_p_entrepotref21_Queue_Holds [.pointer (some ⟨gw, 0, none⟩), dotP d] b (stW gw v l V M F) (fun u F' => ∃ y s is, Hs d (M.map nW) y s is ∧ u = .tuple ⟨[.agg ⟨wsC y s⟩, .bool is]⟩ ∧ F' = rZ y.dv y.deps :: rD y.rv y.refs :: stW gw v l V M F) := by
  refine (rHolds_S hq).out ?_
  rintro u _ (⟨h1, h2, rfl⟩ | ⟨x, hx, dv, rv, h1, h2, rfl⟩)
  · exact ⟨_, ent_nil2, ev0, 0, false, hs_none (findW_M h1), h2, rfl⟩
  · exact ⟨_, Ent.refl _, x.e.own dv rv, x.src, true, hs_some (x := nW x) hq (findW_of hq.nd (List.mem_map.2 ⟨x, hx, rfl⟩) h1) dv rv, h2, rfl⟩
theorem rows_one {i j : Nat} (hi : nth F i = some (rZ e.dv e.deps)) (hj : nth F j = some (rD e.rv e.refs)) : ∀ w, Sat b F w → e.dv.oneCell' = true ∧ e.rv.oneCell' = true := fun w H => by
  obtain ⟨A, c, hv, _⟩ := (ER.of_rows hi hj w H).dv.form
  obtain ⟨A2, c2, hv2, _⟩ := sl_form (ER.of_rows hi hj w H).rv
  rw [hv, hv2]; exact ⟨rfl, rfl⟩
theorem wl1 {k i j : Nat} (h : e.id.length = 32) (hk : nth F k = some (pt gl t_api_Waiting (wsC e s))) (hi : nth F i = some (rZ e.dv e.deps)) (hj : nth F j = some (rD e.rv e.refs)) : ∀ w, Sat b F w → WL w (.slice (some ⟨gl, 0, none⟩) 1 1) [⟨0, e, s⟩] := fun w H =>
  ⟨by
    have e1 : wssC [(⟨0, e, s⟩ : Wn)] = wsC e s := by simp [flC]
    rw [e1]; exact (H.blk hk).sl (by rw [wsC_len h]) (by simp), fun m hm => by rw [List.mem_singleton.1 hm]; exact ER.of_rows hi hj w H⟩
set_option maxRecDepth 20000 in
set_option maxHeartbeats 4000000 in
theorem stands_S (hd : dotOk d) : SC Try.prog n_entrepotlaw21_stands [.pointer (some ⟨gq, 0, none⟩), .pointer (some ⟨gw, 0, none⟩), dotP d] b (que gq n V L :: rqu gw n V L :: F) (fun u F' => u = .bool true ∧ F' = que gq n V L :: rqu gw n V L :: F) := by
  refine SC.ent (G := rqu gw n V L :: que gq n V L :: F) ?_ (ent_keep 2 [1, 0] rfl rfl)
  refine SC.opn ?_
  rintro ⟨v, l, M⟩ ⟨hq, hM⟩
  dsimp only at hM
  subst hM
  show SC _ _ _ _ (stW gw v l V M (que gq n V (M.map nW) :: F)) _
  have hml := hq.mlen
  have hVl := hq.len
  have h16 := hq.n2
  refine enterS F_entrepotlaw21_stands rfl rfl rfl ?_
  refine sw_fact (fun w H => (H.oat (k := 1) rfl).form) ?_
  rintro ⟨Av, cv, rfl, _, _, _⟩
  (refine sw_seq ?_; refine sw_region ?_)
  refine so_box rfl rfl rfl rfl rfl fun g5 => ?_
  (refine so_1 rfl ?_; refine so_nil ?_; refine sn_then ?_; refine sw_seq ?_; refine sw_region ?_; refine so_1 rfl ?_)
  refine so_ent (ent_keep 6 [5, 1, 2, 3, 4, 0] rfl rfl) ?_
  refine so_call rfl rfl rfl (Vector_Q) ?_
  rintro v16 _ rfl
  (refine so_1 rfl ?_)
  refine so_call rfl rfl rfl ((Held_Q (gq := gq) (n := n) (V := V) (L := M.map nW)).ent (ent_keep 2 [1, 0] rfl rfl)) ?_
  rintro v18 _ ⟨D, hD, rfl⟩
  (refine so_1 rfl ?_)
  refine so_call rfl rfl rfl ((Ripe_Q (gq := gq) (n := n) (V := V) (L := M.map nW)).ent (ent_keep 4 [2, 0, 1, 3] rfl rfl)) ?_
  rintro _ _ ⟨A20, c20, rfl, rfl⟩
  have hRl : (ripes V (M.map nW)).length ≤ 100000 := by have := ripes_le V (M.map nW); rw [List.length_map] at this; omega
  ((iterate 3 refine so_1 rfl ?_); refine so_nil ?_; refine sn_then ?_; refine sw_seq ?_; refine sw_region ?_; refine so_1 rfl ?_; refine so_l 9 rfl rfl rfl ?_)
  refine so_call rfl rfl rfl ((Holds_U (gq := gq) hd hq).ent (ent_keep 5 [1, 0, 2, 3, 4] rfl rfl)) ?_
  rintro _ _ ⟨y, s, is, hy, rfl, rfl⟩
  refine so_fact (rows_one (e := y) (i := 0) (j := 1) rfl rfl) fun hone => ?_
  have hy32 := hy.ew.l32
  ((iterate 3 refine so_1 rfl ?_))
  refine so_new rfl rfl rfl rfl rfl fun g10 => ?_
  refine so_stW 0 rfl rfl rfl rfl rfl rfl rfl (wsC_len hy32) (wsC_one hone.1 hone.2) (by rw [wsC_len hy32]; rfl) ?_
  (refine so_1 rfl ?_; refine so_nil ?_; refine sn_then ?_; refine sw_seq ?_; refine sw_region ?_; refine so_1 rfl ?_; refine so_l 12 rfl rfl rfl ?_)
  refine so_call rfl rfl rfl ((rHolds_U (gw := gw) (d := d) (v := .slice Av V.length cv) (l := l) hq).ent (ent_keep 12 [8, 9, 10, 11, 0, 1, 2, 3, 4, 5, 6, 7] rfl rfl)) ?_
  rintro _ _ ⟨y', s', is', hy', rfl, rfl⟩
  have heq := hy.eq.trans hy'.eq.symm
  simp only [Prod.mk.injEq] at heq
  obtain ⟨he1, rfl, rfl⟩ := heq
  refine so_fact (rows_one (e := y') (i := 0) (j := 1) rfl rfl) fun hone' => ?_
  have hy32' := hy'.ew.l32
  ((iterate 3 refine so_1 rfl ?_))
  refine so_new rfl rfl rfl rfl rfl fun g12 => ?_
  refine so_stW 0 rfl rfl rfl rfl rfl rfl rfl (wsC_len hy32') (wsC_one hone'.1 hone'.2) (by rw [wsC_len hy32']; rfl) ?_
  (refine so_1 rfl ?_; refine so_nil ?_; refine sn_then ?_; refine sw_seq ?_; refine sw_region ?_; (iterate 4 refine so_1 rfl ?_); refine so_l 3 rfl rfl rfl ?_)
  -- g12 rZ' rD' gw rZ rWs all g10 rZy rDy que rO rWsD allD rZv g5 F
  refine so_callE rfl rfl rfl (SameInts_S (vlZ (k := 14) rfl) (vlZ (k := 4) rfl)) ?_
  refine so_know 38 (.bool true) rfl (congrArg Value.bool (decide_eq_true rfl)) ?_
  ((iterate 3 refine so_1 rfl ?_))
  refine so_call rfl rfl rfl ((rHeld_S (gw := gw) (v := .slice Av V.length cv) (l := l) hq).ent (ent_keep 7 [3, 4, 5, 6, 0, 1, 2] rfl rfl)) ?_
  rintro v42 _ ⟨D2, hD2, rfl⟩
  -- rWsD2 allD2 gw rZ rWs all g12 rZ' rD' g10 rZy rDy que rO rWsD allD rZv g5 F
  have hD32 : ∀ x ∈ D, x.e.id.length = 32 ∧ len32 x.e.refs ∧ x.e.refs.length ≤ 1000000 := fun x hx => by
    have h1 : nW x ∈ M.map nW := by rw [← hD]; exact List.mem_map.2 ⟨x, hx, rfl⟩
    have h2 := hq.ew (nW x) h1
    exact ⟨h2.l32, h2.r32, hq.rf (nW x) h1⟩
  have hDd : ∀ x ∈ D, x.e.deps.length ≤ 1000000 ∧ x.e.refs.length ≤ 1000000 := fun x hx => by
    have h1 : nW x ∈ M.map nW := by rw [← hD]; exact List.mem_map.2 ⟨x, hx, rfl⟩
    exact hq.lds (x := nW x) h1
  have hDl : D.length ≤ 1000000 := by have := congrArg List.length hD; rw [List.length_map, List.length_map] at this; omega
  refine so_callE rfl rfl rfl (SameWaiting_S (l := D) (m := D2) (hD.trans hD2.symm) (rWs_wl (k := 14) (j := 15) rfl rfl) (rWs_wl (k := 0) (j := 1) rfl rfl) hD32 hDl) ?_
  ((iterate 4 refine so_1 rfl ?_))
  refine so_call rfl rfl rfl ((rRipe_S (gw := gw) (v := .slice Av V.length cv) (l := l) hq).ent (ent_keep 6 [2, 3, 4, 5, 0, 1] rfl rfl)) ?_
  rintro _ _ ⟨A48, c48, rfl, rfl⟩
  rw [← ripes_nW]
  -- rO2 gw rZ rWs all rWsD2 allD2 g12 rZ' rD' g10 rZy rDy que rO rWsD allD rZv g5 F
  refine so_callE rfl rfl rfl (SameDots_S (l := ripes V (M.map nW)) (fun w H => (H.oat (k := 14) rfl).sl) (fun w H => (H.oat (k := 0) rfl).sl) (by omega)) ?_
  ((iterate 2 refine so_1 rfl ?_))
  refine so_ldA 10 rfl rfl rfl rfl rfl rfl (segO_all (by rw [wsC_len hy32]; rfl)) rfl ?_
  refine so_lit1 rfl rfl rfl rfl rfl rfl rfl (wsC_len hy32) (by decide) fun gl1 => ?_
  refine so_ldA 8 rfl rfl rfl rfl rfl rfl (segO_all (by rw [wsC_len hy32']; rfl)) rfl ?_
  refine so_lit1 rfl rfl rfl rfl rfl rfl rfl (wsC_len hy32') (by decide) fun gl2 => ?_
  refine so_callE rfl rfl rfl (SameWaiting_S (l := [⟨0, y, s⟩]) (m := [⟨0, y', s⟩]) (by simp only [List.map_cons, List.map_nil, nW, he1]) (wl1 (k := 1) (i := 13) (j := 14) hy32 rfl rfl rfl) (wl1 (k := 0) (i := 10) (j := 11) hy32' rfl rfl rfl) (fun x hx => by rw [List.mem_singleton.1 hx]; exact ⟨hy32, hy.ew.r32, hy.ln.2⟩) (by simp)) ?_
  ((iterate 7 refine so_1 rfl ?_); refine so_nil ?_; refine sn_then ?_; refine sw_seq ?_; refine sw_region ?_; refine so_1 rfl ?_)
  refine so_know 14 (.bool true) rfl (congrArg Value.bool (by cases is <;> rfl)) ?_
  skip
  refine so_call rfl rfl rfl ((OverInts_D (l := V) (v := v16) (by omega)).ent (ent_keep 20 [19, 1, 3, 4, 5, 6, 12, 13, 14, 15, 16, 17, 18] rfl rfl)) ?_
  rintro _ _ rfl
  (refine so_nil ?_; refine sn_then ?_; refine sw_seq ?_; refine sw_region ?_; refine so_1 rfl ?_)
  refine so_call rfl rfl rfl ((OverWaiting_D (l := D) (v := v18) (fun x hx => ⟨(hD32 x hx).1, (hD32 x hx).2.1⟩) hDd hDl).ent (ent_keep 12 [10, 11, 0, 1, 2, 3, 4, 5, 6, 7, 8, 9] rfl rfl)) ?_
  rintro _ _ rfl
  (refine so_nil ?_; refine sn_then ?_; refine sw_seq ?_; refine sw_region ?_; refine so_1 rfl ?_)
  refine so_call rfl rfl rfl ((OverDots_D (l := ripes V (M.map nW)) (v := .slice A20 (ripes V (M.map nW)).length c20) (by omega)).ent (ent_keep 10 [9, 0, 1, 2, 3, 4, 5, 6, 7, 8] rfl rfl)) ?_
  rintro _ _ rfl
  (refine so_nil ?_; refine sn_then ?_; refine sw_seq ?_; refine sw_region ?_)
  refine so_ldA 5 rfl rfl rfl rfl rfl rfl (segO_all (by rw [wsC_len hy32]; rfl)) rfl ?_
  refine so_lit1 rfl rfl rfl rfl rfl rfl rfl (wsC_len hy32) (by decide) fun gl3 => ?_
  refine so_call rfl rfl rfl ((overW_S (e := y) (s := s) (F := que gq n V (M.map nW) :: stW gw (.slice Av V.length cv) l V M F) hy.ew hy.ln).ent (ent_keep 11 [0, 7, 8, 9, 2, 3, 4, 5] rfl rfl)) ?_
  rintro _ _ rfl
  (refine so_nil ?_; refine sn_then ?_; refine sw_seq ?_; refine sw_region ?_; (iterate 2 refine so_1 rfl ?_); refine so_nil ?_; refine sn_then ?_; refine sw_ret ?_)
  refine sn_ret rfl (.tmp rfl .nil) (ent_cons (rpack hq rfl)) ?_
  exact ⟨rfl, rfl⟩
end
end Go.Proofs.Ytgkhflcpbjlmiaa
/- Queues, part thirty-one: an act is answered alike; which acts are too many. Conditions: none. -/
namespace Go.Proofs.Ytgkhflcpbjlmiaa
open Go.Eng Go.RowKit Go.WideMaps Go.Heap

structure Ac where
  kind : Int
  n : Int
  e : Ev
def acC (a : Ac) : List Value := .int .i64 a.kind :: .int .i64 a.n :: evC a.e
def actSt (V : List Int) (L : List Wn) (a : Ac) : List Int × List Wn :=
  if a.kind = 0 then (V, addL V L a.e a.n) else if a.kind = 1 then (delV V L (a.e.r, a.e.n), delLs V L (a.e.r, a.e.n)) else if a.kind = 2 then (ownV V L a.n, L) else if a.kind = 3 then (match ripes V L with
    | [] => (V, L)
    | d :: _ => (delV V L d, delLs V L d)) else (V, L)
theorem ripes_dot {n : Nat} {V : List Int} {L : List Wn} (hq : QI n V L) {d : Int × Int} (hd : d ∈ ripes V L) : dotOk d := by
  unfold ripes at hd
  obtain ⟨w, hw, rfl⟩ := List.mem_map.1 hd
  exact hq.dotOk (List.mem_filter.1 hw).1
section
variable {b : World} {F : List SP} {gq gw n : Nat} {V : List Int} {L M : List Wn} {a : Ac}
set_option maxRecDepth 20000 in
set_option maxHeartbeats 4000000 in
theorem acted_S (he : ∀ w, Sat b F w → ER w a.e) (hew : EW a.e) (hn : I64 a.n) (hd : a.e.deps.length ≤ 1000000) (hl : a.e.refs.length ≤ 1000000) :
    SC Try.prog n_entrepotlaw21_acted [.pointer (some ⟨gq, 0, none⟩), .pointer (some ⟨gw, 0, none⟩), .agg ⟨acC a⟩] b (que gq n V L :: rqu gw n V L :: F) (fun u F' => u = .bool true ∧ F' = que gq n (actSt V L a).1 (actSt V L a).2 :: rqu gw n (actSt V L a).1 (actSt V L a).2 :: F) := by
  have h32 := hew.l32
  have hseg : segO (acC a) 2 39 = some (evC a.e) := segO_all (cs := evC a.e) (by rw [evC_len h32])
  refine enterS F_entrepotlaw21_acted rfl rfl rfl ?_
  refine sw_fact (que_qi (k := 0) rfl) fun hq => ?_
  (refine sw_seq ?_; refine sw_region ?_)
  refine so_box rfl rfl rfl rfl rfl fun g5 => ?_
  refine so_ent (ent_keep 3 [1, 2, 0] rfl rfl) ?_
  (refine so_1 rfl ?_; refine so_nil ?_; refine sn_then ?_; (iterate 2 refine sw_seq ?_); refine sw_region ?_; refine so_1 rfl ?_; refine so_l 2 rfl rfl rfl ?_; refine so_nil ?_; refine sn_then ?_; refine sw_block ?_; refine sw_seq ?_; refine sw_region ?_; (iterate 2 refine so_1 rfl ?_); refine so_nil ?_; refine sn_then ?_)
  by_cases k0 : a.kind = 0
  · have hst : actSt V L a = (V, addL V L a.e a.n) := if_pos k0
    refine sw_know 20 (.bool true) rfl (congrArg Value.bool (decide_eq_true k0)) ?_
    (refine sw_cond_t rfl ?_; refine sw_seq ?_; refine sw_region ?_; refine so_1 rfl ?_)
    refine so_ldA 2 rfl rfl rfl rfl rfl rfl hseg rfl ?_
    refine so_call rfl rfl rfl (CopyEvent_S (up he (ent_keep 3 [] rfl rfl)) h32 hd hl) ?_
    rintro _ _ ⟨dv, rv, rfl, rfl⟩
    refine so_fact (rows_one (e := a.e.own dv rv) (i := 0) (j := 1) rfl rfl) fun hone => ?_
    have hy32 : (a.e.own dv rv).id.length = 32 := h32
    refine so_new rfl rfl rfl rfl rfl fun g7 => ?_
    refine so_stW 0 rfl rfl rfl rfl rfl rfl rfl (evC_len hy32) (evC_one hone.1 hone.2) (by rw [evC_len hy32]; rfl) ?_
    (refine so_nil ?_; refine sn_then ?_; refine sw_seq ?_; refine sw_region ?_; refine so_1 rfl ?_)
    refine so_ldA 0 rfl rfl rfl rfl rfl rfl (segO_all (by rw [evC_len hy32]; rfl)) rfl ?_
    (refine so_1 rfl ?_; refine so_l 5 rfl rfl rfl ?_)
    have hA : SC Try.prog n_p_hold_Queue_Add [.pointer (some ⟨gq, 0, none⟩), evV (a.e.own dv rv), .int .i64 a.n] b (que gq n V L :: rZ dv a.e.deps :: rD rv a.e.refs :: pt g7 t_api_Event (evC (a.e.own dv rv)) :: rqu gw n V L :: pt g5 t_entrepotlaw21_Act (acC a) :: F) (fun v F' => v = .tuple ⟨[.bool (addB V L a.e a.n), .int .i64 (addE V L a.e a.n)]⟩ ∧ F' = que gq n V (addL V L a.e a.n) :: rZ dv a.e.deps :: rD rv a.e.refs :: pt g7 t_api_Event (evC (a.e.own dv rv)) :: rqu gw n V L :: pt g5 t_entrepotlaw21_Act (acC a) :: F) :=
      Add_S (e := a.e.own dv rv) (vlZ (k := 0) rfl) (fun w H => (H.oat (k := 1) rfl).sl) hd hl (hew.own dv rv)
    refine so_call rfl rfl rfl (hA.ent (ent_keep 6 [3, 1, 2, 0, 4, 5] rfl rfl)) ?_
    rintro _ _ ⟨rfl, rfl⟩
    ((iterate 5 refine so_1 rfl ?_); refine so_nil ?_; refine sn_then ?_; refine sw_seq ?_; refine sw_region ?_; (iterate 2 refine so_1 rfl ?_))
    refine so_ldA 5 rfl rfl rfl rfl rfl rfl hseg rfl ?_
    (refine so_1 rfl ?_; refine so_l 5 rfl rfl rfl ?_)
    refine so_call rfl rfl rfl ((rAdd_Q (gw := gw) (n := n) (V := V) (L := L) (e := a.e) (s := a.n) (up he (ent_keep 5 [] rfl rfl)) hew hd hl).ent (ent_keep 6 [4, 0, 1, 2, 3, 5] rfl rfl)) ?_
    rintro _ _ ⟨rfl, rfl⟩
    ((iterate 5 refine so_1 rfl ?_); refine so_nil ?_; refine sn_then ?_; refine sw_seq ?_; refine sw_region ?_; (iterate 4 refine so_1 rfl ?_))
    refine so_know 45 (.bool true) rfl (congrArg Value.bool (by cases addB V L a.e a.n <;> rfl)) ?_
    ((iterate 5 refine so_1 rfl ?_))
    refine so_know 50 (.bool true) rfl (congrArg Value.bool (by simp)) ?_
    skip
    refine so_ldA 4 rfl rfl rfl rfl rfl rfl (segO_all (by rw [evC_len hy32]; rfl)) rfl ?_
    (refine so_1 rfl ?_)
    refine so_ldA 5 rfl rfl rfl rfl rfl rfl hseg rfl ?_
    refine so_callE rfl rfl rfl (SameEvent_S (e := a.e.own dv rv) (f := a.e) rfl (ER.of_rows (i := 2) (j := 3) rfl rfl) (up he (ent_keep 6 [] rfl rfl)) hy32 hew.r32 hl) ?_
    ((iterate 2 refine so_1 rfl ?_); refine so_nil ?_; refine sn_then ?_; refine sw_seq ?_; refine sw_region ?_)
    refine so_ldA 4 rfl rfl rfl rfl rfl rfl (segO_all (by rw [evC_len hy32]; rfl)) rfl ?_
    refine so_lit1 rfl rfl rfl rfl rfl rfl rfl (evC_len hy32) (by decide) fun gl => ?_
    refine so_call rfl rfl rfl ((over1_S (e := a.e.own dv rv) (F := que gq n V (addL V L a.e a.n) :: rqu gw n V (addL V L a.e a.n) :: F) (hew.own dv rv) ⟨hd, hl⟩).ent (ent_keep 7 [0, 3, 4, 2, 1] rfl rfl)) ?_
    rintro _ _ rfl
    (refine so_nil ?_; refine sn_then ?_; refine sw_seq ?_; refine sw_region ?_; (iterate 2 refine so_1 rfl ?_); refine so_nil ?_; refine sn_then ?_; refine sw_ret ?_; refine sn_block_ret ?_; refine sn_then_ret ?_)
    rw [hst]
    refine sn_ret rfl (.tmp rfl .nil) (Ent.refl _) ?_
    exact ⟨rfl, rfl⟩
  refine sw_know 20 (.bool false) rfl (congrArg Value.bool (decide_eq_false k0)) ?_
  (refine sw_cond_f rfl ?_; refine sw_seq ?_; refine sw_region ?_; (iterate 2 refine so_1 rfl ?_); refine so_nil ?_; refine sn_then ?_)
  by_cases k1 : a.kind = 1
  · have hst : actSt V L a = (delV V L (a.e.r, a.e.n), delLs V L (a.e.r, a.e.n)) := by rw [actSt, if_neg k0, if_pos k1]
    refine sw_know 60 (.bool true) rfl (congrArg Value.bool (decide_eq_true k1)) ?_
    (refine sw_cond_t rfl ?_; refine sw_seq ?_; refine sw_region ?_; (iterate 4 refine so_1 rfl ?_); refine so_l 2 rfl rfl rfl ?_)
    refine so_call rfl rfl rfl (delivers_S (gq := gq) (gw := gw) (d := (a.e.r, a.e.n)) hew.dot) ?_
    rintro _ _ ⟨rfl, rfl⟩
    (refine so_1 rfl ?_; refine so_nil ?_; refine sn_then ?_; refine sw_ret ?_; refine sn_block_ret ?_; refine sn_then_ret ?_)
    rw [hst]
    refine sn_ret rfl (.tmp rfl .nil) (ent_keep 3 [0, 1] rfl rfl) ?_
    exact ⟨rfl, rfl⟩
  refine sw_know 60 (.bool false) rfl (congrArg Value.bool (decide_eq_false k1)) ?_
  (refine sw_cond_f rfl ?_; refine sw_seq ?_; refine sw_region ?_; (iterate 2 refine so_1 rfl ?_); refine so_nil ?_; refine sn_then ?_)
  by_cases k2 : a.kind = 2
  · have hst : actSt V L a = (ownV V L a.n, L) := by rw [actSt, if_neg k0, if_neg k1, if_pos k2]
    refine sw_know 68 (.bool true) rfl (congrArg Value.bool (decide_eq_true k2)) ?_
    (refine sw_cond_t rfl ?_; refine sw_seq ?_; refine sw_region ?_; (iterate 2 refine so_1 rfl ?_); refine so_l 2 rfl rfl rfl ?_)
    refine so_call rfl rfl rfl (Own_Q (gq := gq) hn) ?_
    rintro _ _ ⟨rfl, rfl⟩
    ((iterate 3 refine so_1 rfl ?_))
    refine so_new rfl rfl rfl rfl rfl fun g13 => ?_
    (refine so_s1 0 rfl rfl rfl rfl ?_; refine so_1 rfl ?_; refine so_nil ?_; refine sn_then ?_; refine sw_seq ?_; refine sw_region ?_; (iterate 2 refine so_1 rfl ?_); refine so_l 3 rfl rfl rfl ?_)
    refine so_call rfl rfl rfl ((rOwn_Q (gw := gw) (n := n) (V := V) (L := L) hn).ent (ent_keep 4 [2, 0, 1, 3] rfl rfl)) ?_
    rintro _ _ ⟨rfl, rfl⟩
    ((iterate 3 refine so_1 rfl ?_))
    refine so_new rfl rfl rfl rfl rfl fun g15 => ?_
    (refine so_s1 0 rfl rfl rfl rfl ?_; refine so_1 rfl ?_; refine so_nil ?_; refine sn_then ?_; refine sw_seq ?_; refine sw_region ?_; refine so_l 2 rfl rfl rfl ?_; refine so_l 0 rfl rfl rfl ?_)
    refine so_pu rfl (pu_eqA rfl rfl (eq_dot _ _ _ _)) rfl ?_
    refine so_know 86 (.bool true) rfl (congrArg Value.bool (decide_eq_true ⟨rfl, rfl⟩)) ?_
    ((iterate 6 refine so_1 rfl ?_); refine so_nil ?_; refine sn_then ?_; refine sw_ret ?_; refine sn_block_ret ?_; refine sn_then_ret ?_)
    rw [hst]
    refine sn_ret rfl (.tmp rfl .nil) (ent_keep 5 [3, 1] rfl rfl) ?_
    exact ⟨by simp [tupl], rfl⟩
  refine sw_know 68 (.bool false) rfl (congrArg Value.bool (decide_eq_false k2)) ?_
  (refine sw_cond_f rfl ?_; refine sw_seq ?_; refine sw_region ?_; (iterate 2 refine so_1 rfl ?_); refine so_nil ?_; refine sn_then ?_)
  by_cases k3 : a.kind = 3
  · refine sw_know 92 (.bool true) rfl (congrArg Value.bool (decide_eq_true k3)) ?_
    (refine sw_cond_t rfl ?_; refine sw_seq ?_; refine sw_region ?_; refine so_1 rfl ?_)
    refine so_call rfl rfl rfl ((rRipe_Q (gw := gw) (n := n) (V := V) (L := L)).ent (ent_keep 3 [1, 0, 2] rfl rfl)) ?_
    rintro _ _ ⟨A, c, rfl, rfl⟩
    have hdots : ∀ d ∈ ripes V L, dotOk d := fun d h => ripes_dot hq h
    have hst : actSt V L a = (match ripes V L with
      | [] => (V, L)
      | d :: _ => (delV V L d, delLs V L d)) := by rw [actSt, if_neg k0, if_neg k1, if_neg k2, if_pos k3]
    have hRl := ripes_le V L
    have hm := hq.many
    cases hr : ripes V L with
    | nil =>
      rw [hr] at hst
      (refine so_1 rfl ?_; refine so_nil ?_; refine sn_then ?_; refine sw_seq ?_; refine sw_region ?_; (iterate 12 refine so_1 rfl ?_); refine so_nil ?_; refine sn_then ?_; refine sw_ret ?_; refine sn_block_ret ?_; refine sn_then_ret ?_)
      rw [hst]
      refine sn_ret rfl (.tmp rfl .nil) (ent_keep 4 [2, 1] rfl rfl) ?_
      exact ⟨rfl, rfl⟩
    | cons d l =>
      rw [hr] at hst hdots hRl
      refine so_fact (fun w H => (H.oat (k := 0) rfl).form) ?_
      rintro ⟨A', c', hv, _, _, k4⟩
      cases hv
      obtain ⟨bk, off, rfl⟩ := k4 (by rename_i h _; simp only [List.length_cons] at h; omega)
      (refine so_1 rfl ?_; refine so_nil ?_; refine sn_then ?_; refine sw_seq ?_; refine sw_region ?_; (iterate 7 refine so_1 rfl ?_); refine so_2 rfl (by (simp; done)) ?_)
      refine so_know 99 (.bool false) rfl (congrArg Value.bool (decide_eq_false (by simp only [List.length_cons]; omega))) ?_
      skip
      refine so_rd rfl (fun w H => ex_loadN (cs := [.int .i64 d.1, .int .i64 d.2]) rfl rfl rfl rfl (fun j hj => by
        rcases j with _ | _ | j
        · exact row_cell (k := 0) (j := 0) rfl rfl w H
        · exact row_cell (k := 0) (j := 1) rfl rfl w H
        · simp only [List.length_cons, List.length_nil] at hj; omega)) rfl ?_
      refine so_call rfl rfl rfl ((delivers_S (gq := gq) (gw := gw) (n := n) (V := V) (L := L) (d := d) (hdots d List.mem_cons_self)).ent (ent_keep 4 [2, 1, 0, 3] rfl rfl)) ?_
      rintro _ _ ⟨rfl, rfl⟩
      ((iterate 2 refine so_1 rfl ?_); refine so_nil ?_; refine sn_then ?_; refine sw_ret ?_; refine sn_block_ret ?_; refine sn_then_ret ?_)
      rw [hst]
      refine sn_ret rfl (.tmp rfl .nil) (ent_keep 4 [0, 1] rfl rfl) ?_
      exact ⟨rfl, rfl⟩
  refine sw_know 92 (.bool false) rfl (congrArg Value.bool (decide_eq_false k3)) ?_
  have hst : actSt V L a = (V, L) := by rw [actSt, if_neg k0, if_neg k1, if_neg k2, if_neg k3]
  (refine sw_cond_f rfl ?_; refine sw_skip ?_; refine sn_block ?_; refine sn_then ?_; refine sw_seq ?_; refine sw_region ?_; refine so_1 rfl ?_; refine so_nil ?_; refine sn_then ?_; refine sw_ret ?_)
  rw [hst]
  refine sn_ret rfl (.tmp rfl .nil) (ent_keep 3 [0, 1] rfl rfl) ?_
  exact ⟨rfl, rfl⟩
structure AL (w : World) (v : Value) (l : List Ac) : Prop where
  sl : SL w 41 v l.length (flC acC l)
  er : ∀ a ∈ l, ER w a.e
theorem acC_len (h : a.e.id.length = 32) : (acC a).length = 41 := by simp [acC, evC_len h]
set_option maxRecDepth 20000 in
set_option maxHeartbeats 2000000 in
theorem Long_S {v : Value} {l : List Ac} (hl : ∀ w, Sat b F w → AL w v l) (h32 : ∀ e ∈ l, e.e.id.length = 32) :
    SC Try.prog n_entrepotlaw21_Long [v] b F (fun v F' => ∃ q : Bool, (q = false → l.length ≤ 90 ∧ ∀ e ∈ l, LE e.e) ∧ v = .bool q ∧ F' = F) := by
  refine enterS F_entrepotlaw21_Long rfl rfl rfl ?_
  refine sw_fact (fun w H => sl_form (hl w H).sl) ?_
  rintro ⟨A0, c0, rfl, _, _, _, k4, _⟩
  (refine sw_seq ?_; refine sw_region ?_; refine so_1 rfl ?_; refine so_nil ?_; refine sn_then ?_; refine sw_seq ?_; refine sw_region ?_; refine so_1 rfl ?_; refine so_nil ?_; refine sn_then ?_; (iterate 2 refine sw_seq ?_); refine sw_region ?_; refine so_1 rfl ?_; refine so_nil ?_; refine sn_then ?_; refine sw_block ?_)
  refine sw_loop (S := Nat × Option Addr × Nat) (fun s => [(0, .slice A0 l.length c0), (3, .slice s.2.1 s.1 s.2.2), (4, .int .i64 (s.1 : Int))]) (fun s => rEn s.2.1 s.2.2 s.1 ((l.take s.1).map (·.e)) :: F) (fun s => s.1 ≤ l.length ∧ s.1 ≤ 91) (fun s => l.length - s.1) (0, none, 0) ⟨rfl, rfl, rfl, trivial⟩ (ent_row_nil t_api_Event 39 rfl) ⟨Nat.zero_le _, Nat.zero_le _⟩ ?_
  rintro ⟨i, A, c⟩ ⟨i1, i2⟩
  dsimp only at i1 i2 ⊢
  ((iterate 2 refine sw_seq ?_); refine sw_region ?_; (iterate 5 refine so_1 rfl ?_))
  by_cases h1 : i < l.length
  · refine so_know 9 (.bool true) rfl (congrArg Value.bool (decide_eq_true (by omega))) ?_
    ((iterate 3 refine so_1 rfl ?_); refine so_nil ?_; refine sn_then ?_)
    refine sw_if rfl (fun h2 => ?_) (fun h2 => ?_)
    · obtain ⟨gg, oo, rfl⟩ := k4 (by omega)
      have hmem := List.getElem_mem h1
      have hc : ∀ w, Sat b F w → ∀ j, j < 41 → w.cell? ⟨gg, oo + i * 41 + j, none⟩ = (acC l[i])[j]? := fun w H j hj => fl_cell (hl w H).sl (fun a ha => acC_len (h32 a ha)) h1 hj
      have hx32 := h32 _ hmem
      have hxe : ∀ w, Sat b F w → ER w l[i].e := fun w H => (hl w H).er _ hmem
      have hsn : (l.take (i + 1)).map (·.e) = (l.take i).map (·.e) ++ [l[i].e] := by rw [List.take_succ_eq_append_getElem h1, List.map_append]; rfl
      generalize l[i] = x at *
      (refine sw_skip ?_; refine sn_then ?_; refine sw_seq ?_; refine sw_block ?_; refine sw_region ?_; (iterate 3 refine so_1 rfl ?_); refine so_2 rfl (by omega) ?_; refine so_1 rfl ?_)
      refine so_rd rfl (fun w H => ex_loadN (cs := evC x.e) rfl rfl rfl (evC_len hx32) (fun j hj => by rw [evC_len hx32] at hj; rw [mulz_eq, Int.toNat_natCast, Nat.add_assoc, Nat.add_assoc, ← Nat.add_assoc oo]; exact (up hc (ent_keep 1 [] rfl rfl) w H (2 + j) (by omega)).trans (by rw [Nat.add_comm]; rfl))) rfl ?_
      refine so_fact (fun w H => (up hxe (ent_keep 1 [] rfl rfl) w H).dv.form) ?_
      rintro ⟨A2, c2, hdv, _, _, _, _⟩
      refine so_fact (fun w H => sl_form (up hxe (ent_keep 1 [] rfl rfl) w H).rv) ?_
      rintro ⟨A3, c3, hrv, _, _, _, _, _⟩
      refine so_lit1 rfl rfl rfl rfl rfl rfl rfl (evC_len hx32) (by decide) fun gl => ?_
      refine so_append 1 rfl rfl rfl rfl rfl rfl rfl rfl rfl (m := 1) (news := evC x.e) (fun w H => (H.blk (k := 0) rfl).sl (by rw [evC_len hx32]) (by decide)) (evC_one (by rw [hdv]; rfl) (by rw [hrv]; rfl)) (by omega) (fun _ => rfl) fun v8 => ?_
      refine so_fact (fun w H => (H.oat (k := 1) rfl).form) ?_
      rintro ⟨A7, c7, rfl, _, _, _⟩
      (refine so_1 rfl ?_; refine so_nil ?_; refine sn_block ?_; refine sn_then ?_; refine sw_region ?_; refine so_1 rfl ?_; refine so_2 rfl (by (unfold I64; omega)) ?_; refine so_1 rfl ?_; refine so_nil ?_)
      have e1 : rEn A7 c7 (i + 1) ((l.take (i + 1)).map (·.e)) = row t_api_Event 39 (.slice A7 (i + 1) c7) (i + 1) (evsC ((l.take i).map (·.e)) ++ evC x.e) := by
        rw [hsn]; simp only [rEn, flC_app, flC, List.append_nil]
      refine sn_round (i + 1, A7, c7) ⟨rfl, rfl, rfl, trivial⟩ (by simp only [e1]; exact ent_keep 2 [1] rfl rfl) ⟨h1, by dsimp only; omega⟩ (by dsimp only; omega)
    · (refine sw_exit ?_; refine sn_then_exit ?_; refine sn_loop_exit ?_; refine sn_block_exit ?_; refine sn_then ?_; refine sw_seq ?_; refine sw_region ?_; (iterate 4 refine so_1 rfl ?_))
      refine so_know 26 (.bool true) rfl (congrArg Value.bool (decide_eq_true (by omega))) ?_
      ((iterate 4 refine so_1 rfl ?_); refine so_nil ?_; refine sn_then ?_; refine sw_ret ?_)
      refine sn_ret rfl (.tmp rfl .nil) (ent_keep 1 [] rfl rfl) ?_
      exact ⟨true, (fun h => by cases h), rfl, rfl⟩
  · refine so_know 9 (.bool false) rfl (congrArg Value.bool (decide_eq_false (by omega))) ?_
    ((iterate 3 refine so_1 rfl ?_); refine so_nil ?_; refine sn_then ?_; refine sw_cond_f rfl ?_; refine sw_exit ?_; refine sn_then_exit ?_; refine sn_loop_exit ?_; refine sn_block_exit ?_; refine sn_then ?_; refine sw_seq ?_; refine sw_region ?_; (iterate 4 refine so_1 rfl ?_))
    by_cases h2 : l.length ≤ 90
    · refine so_know 26 (.bool false) rfl (congrArg Value.bool (decide_eq_false (by omega))) ?_
      (refine so_1 rfl ?_)
      obtain rfl : i = l.length := by omega
      rw [List.take_length]
      have hle := LongEvents_S (b := b) (F := rEn A c l.length (l.map (·.e)) :: F) (v := .slice A l.length c) (l := l.map (·.e)) (many := 90) (fun w H => ⟨by rw [List.length_map]; exact (H.oat (k := 0) rfl).sl, fun m hm => by
        obtain ⟨x, hx, rfl⟩ := List.mem_map.1 hm
        exact (up hl (ent_keep 1 [] rfl rfl) w H).er x hx⟩) (fun e he => by
        obtain ⟨x, hx, rfl⟩ := List.mem_map.1 he
        exact h32 x hx) (by decide)
      refine so_call rfl rfl rfl (hle) ?_
      rintro _ _ ⟨q, hq, rfl, rfl⟩
      ((iterate 2 refine so_1 rfl ?_); refine so_nil ?_; refine sn_then ?_; refine sw_ret ?_)
      refine sn_ret rfl (.tmp rfl .nil) (ent_keep 1 [] rfl rfl) ?_
      exact ⟨q, fun h => ⟨h2, fun e he => (hq h).2 e.e (List.mem_map.2 ⟨e, he, rfl⟩)⟩, rfl, rfl⟩
    · refine so_know 26 (.bool true) rfl (congrArg Value.bool (decide_eq_true (by omega))) ?_
      ((iterate 4 refine so_1 rfl ?_); refine so_nil ?_; refine sn_then ?_; refine sw_ret ?_)
      refine sn_ret rfl (.tmp rfl .nil) (ent_keep 1 [] rfl rfl) ?_
      exact ⟨true, (fun h => by cases h), rfl, rfl⟩
end
end Go.Proofs.Ytgkhflcpbjlmiaa
/- Queues, part thirty-two: the chapter's queue. Conditions: none. -/
namespace Go.Proofs.Ytgkhflcpbjlmiaa
open Go.Eng Go.RowKit Go.WideMaps Go.Heap

def evA (r n : Int) (dv : Value) (deps : List Int) : Ev := ⟨r, n, dv, deps, 0, ⟨#[]⟩, ⟨#[]⟩, List.replicate 32 0, .slice none 0 0, []⟩
theorem evA_ew {r n : Int} {dv : Value} {deps : List Int} (h1 : 0 ≤ r ∧ r ≤ 1000) (h2 : 0 ≤ n ∧ n ≤ 1000) (h3 : ∀ x ∈ deps, 0 ≤ x ∧ x ≤ 1000) : EW (evA r n dv deps) :=
  ⟨⟨rfl, fun x hx => by rw [(List.mem_replicate.1 hx).2]; decide⟩, ⟨(i64wf _).2 (by show I64 r; unfold I64; omega), (i64wf _).2 (by show I64 n; unfold I64; omega)⟩, fun x hx => by simp [evA] at hx, (by show I64 0; unfold I64; decide), fun x hx => by have := h3 x hx; unfold I64; omega, by show (0 : Nat) ≤ _; omega, by show (0 : Nat) ≤ _; omega⟩
section
variable {b : World} {F : List SP} {gq gw n : Nat} {V : List Int} {L M : List Wn} {e : Ev} {s : Int} {d : Int × Int}
set_option maxRecDepth 20000 in
theorem at_S {r m : Int} {A : Option Addr} {k c : Nat} {deps : List Int} : SC Try.prog n_entrepotlaw21_at [.int .i64 r, .int .i64 m, .slice A k c] b F (fun u F' => u = evV (evA r m (.slice A k c) deps) ∧ F' = F) := by
  refine enterS F_entrepotlaw21_at rfl rfl rfl ?_
  (refine sw_seq ?_; refine sw_region ?_)
  refine so_new rfl rfl rfl rfl rfl fun g6 => ?_
  (refine so_nil ?_; refine sn_then ?_; refine sw_seq ?_; refine sw_region ?_; (iterate 5 refine so_1 rfl ?_); refine so_s1 0 rfl rfl rfl rfl ?_; refine so_nil ?_; refine sn_then ?_; refine sw_ret ?_)
  refine sn_ret rfl (.agg 0 rfl rfl rfl rfl rfl .nil) (ent_keep 1 [] rfl rfl) ?_
  exact ⟨rfl, rfl⟩
set_option maxHeartbeats 2000000 in
theorem adds_S {want : Bool} {err : Int} (h1 : addB V L e s = want) (h2 : addE V L e s = err) (he : ∀ w, Sat b F w → ER w e) (hew : EW e) (hd : e.deps.length ≤ 1000000) (hl : e.refs.length ≤ 1000000) :
    SC Try.prog n_entrepotlaw21_adds [.pointer (some ⟨gq, 0, none⟩), evV e, .int .i64 s, .bool want, .int .i64 err] b (que gq n V L :: F) (fun u F' => u = .bool true ∧ F' = que gq n V (addL V L e s) :: F) := by
  have h32 := hew.l32
  refine enterS F_entrepotlaw21_adds rfl rfl rfl ?_
  (refine sw_seq ?_; refine sw_region ?_)
  refine so_box rfl rfl rfl rfl rfl fun g6 => ?_
  (refine so_1 rfl ?_; refine so_nil ?_; refine sn_then ?_; refine sw_seq ?_; refine sw_region ?_; refine so_1 rfl ?_)
  refine so_ldA 0 rfl rfl rfl rfl rfl rfl (segO_all (by rw [evC_len h32]; rfl)) rfl ?_
  (refine so_1 rfl ?_)
  refine so_ent (ent_keep 2 [1, 0] rfl rfl) ?_
  refine so_call rfl rfl rfl (Add_S (gq := gq) (n := n) (V := V) (L := L) (e := e) (s := s) (up (fun w H => (he w H).dv) (ent_keep 1 [] rfl rfl)) (up (fun w H => (he w H).rv) (ent_keep 1 [] rfl rfl)) hd hl hew) ?_
  rintro _ _ ⟨rfl, rfl⟩
  ((iterate 5 refine so_1 rfl ?_); refine so_nil ?_; refine sn_then ?_; refine sw_seq ?_; refine sw_region ?_; (iterate 4 refine so_1 rfl ?_))
  refine so_know 23 (.bool true) rfl (congrArg Value.bool (by rw [h1]; cases want <;> rfl)) ?_
  ((iterate 5 refine so_1 rfl ?_); refine so_nil ?_; refine sn_then ?_; refine sw_ret ?_)
  refine sn_ret rfl (.tmp rfl .nil) (ent_keep 2 [0] rfl rfl) ?_
  refine ⟨?_, rfl⟩
  rw [h2]; simp [tupl]
set_option maxRecDepth 20000 in
set_option maxHeartbeats 2000000 in
theorem takes_S {r m err : Int} (hE : delE V L (r, m) = err) (hd : dotOk (r, m)) :
    SC Try.prog n_entrepotlaw21_takes [.pointer (some ⟨gq, 0, none⟩), .int .i64 r, .int .i64 m, .int .i64 err] b (que gq n V L :: F) (fun u F' => u = .bool true ∧ F' = que gq n (delV V L (r, m)) (delLs V L (r, m)) :: F) := by
  refine enterS F_entrepotlaw21_takes rfl rfl rfl ?_
  refine sw_fact (que_qi (k := 0) rfl) fun hq => ?_
  (refine sw_seq ?_; refine sw_region ?_; refine so_1 rfl ?_; refine so_nil ?_; refine sn_then ?_; refine sw_seq ?_; refine sw_region ?_; (iterate 4 refine so_1 rfl ?_))
  refine so_call rfl rfl rfl (Deliver_Q (gq := gq) (d := (r, m)) hd) ?_
  rintro _ _ (⟨h1, rfl, rfl⟩ | ⟨x, w, h1, h2, h3, rfl, rfl⟩)
  · have hV : delV V L (r, m) = V := if_neg h1
    have hL : delLs V L (r, m) = L := if_neg h1
    ((iterate 3 refine so_1 rfl ?_))
    refine so_new rfl rfl rfl rfl rfl fun g9 => ?_
    (refine so_s1 0 rfl rfl rfl rfl ?_; refine so_1 rfl ?_; refine so_nil ?_; refine sn_then ?_; refine sw_seq ?_; refine sw_region ?_; (iterate 4 refine so_1 rfl ?_))
    refine so_know 22 (.bool true) rfl (congrArg Value.bool (by rw [hE]; simp)) ?_
    ((iterate 3 refine so_1 rfl ?_))
    refine so_know 25 (.bool true) rfl (congrArg Value.bool (by simpa using h1)) ?_
    ((iterate 9 refine so_1 rfl ?_); refine so_nil ?_; refine sn_then ?_; refine sw_ret ?_)
    rw [hV, hL]
    refine sn_ret rfl (.tmp rfl .nil) (ent_keep 2 [1] rfl rfl) ?_
    exact ⟨rfl, rfl⟩
  · have h0 := delE_ok h1 h2
    have hV : delV V L (r, m) = advV V r m := if_pos h0
    have hL : delLs V L (r, m) = delW (r, m) L := if_pos h0
    have hxL := (findW_some h1).1
    have hwe := EW.of_nW h3 (hq.ew x hxL)
    have hw32 := hwe.l32
    have hdot : w.e.r = r ∧ w.e.n = m := by
      have h5 := (findW_some h1).2
      rw [← h3] at h5
      exact ⟨congrArg Prod.fst h5, congrArg Prod.snd h5⟩
    have herr : err = 0 := hE.symm.trans h0
    subst herr
    refine so_fact (rows_one (e := w.e) (i := 0) (j := 1) rfl rfl) fun hone => ?_
    ((iterate 3 refine so_1 rfl ?_))
    refine so_new rfl rfl rfl rfl rfl fun g9 => ?_
    refine so_stW 0 rfl rfl rfl rfl rfl rfl rfl (evC_len hw32) (evC_one hone.1 hone.2) (by rw [evC_len hw32]; rfl) ?_
    (refine so_1 rfl ?_; refine so_nil ?_; refine sn_then ?_; refine sw_seq ?_; refine sw_region ?_; (iterate 8 refine so_1 rfl ?_); refine so_l 0 rfl rfl rfl ?_; (iterate 3 refine so_1 rfl ?_))
    refine so_pu rfl (pu_eqA rfl rfl (eq_dot _ _ _ _)) rfl ?_
    refine so_know 31 (.bool true) rfl (congrArg Value.bool (decide_eq_true hdot)) ?_
    ((iterate 3 refine so_1 rfl ?_); refine so_nil ?_; refine sn_then ?_; refine sw_ret ?_)
    rw [hV, hL]
    refine sn_ret rfl (.tmp rfl .nil) (ent_keep 4 [3] rfl rfl) ?_
    exact ⟨rfl, rfl⟩
def oL1 : List Wn := addL [0, 0] [] (evA 1 2 nS [1, 1]) 1
def oL2 : List Wn := addL [0, 0] oL1 (evA 2 1 nS [1, 0]) 2
def oL3 : List Wn := addL [0, 0] oL2 (evA 1 1 nS [0, 0]) 1
def oL4 : List Wn := delW (1, 1) oL3
theorem evA_er {r m : Int} {g k : Nat} {deps : List Int} {j : Nat} (hj : nth F j = some (pt g t_int (ints deps))) (hk : k = deps.length) (hm : k ≤ 1000) : ∀ w, Sat b F w → ER w (evA r m (.slice (some ⟨g, 0, none⟩) k k) deps) := fun w H =>
  ⟨by subst hk; exact (H.blk hj).sl (by simp) (by omega), (nil_er w).rv⟩
set_option maxRecDepth 20000 in
set_option maxHeartbeats 4000000 in
theorem one_S : SC Try.prog n_entrepotlaw21_one [] b F (fun u F' => ∃ gq, u = .pointer (some ⟨gq, 0, none⟩) ∧ F' = que gq 2 [1, 0] oL4 :: F) := by
  have b1 : addB [0, 0] [] (evA 1 2 nS [1, 1]) 1 = true := by decide +kernel
  have e1 : addE [0, 0] [] (evA 1 2 nS [1, 1]) 1 = 0 := by decide +kernel
  have b2 : addB [0, 0] oL1 (evA 2 1 nS [1, 0]) 2 = true := by decide +kernel
  have e2 : addE [0, 0] oL1 (evA 2 1 nS [1, 0]) 2 = 0 := by decide +kernel
  have r2 : ripes [0, 0] oL2 = [] := by decide +kernel
  have b3 : addB [0, 0] oL2 (evA 1 1 nS [0, 0]) 1 = true := by decide +kernel
  have e3 : addE [0, 0] oL2 (evA 1 1 nS [0, 0]) 1 = 0 := by decide +kernel
  have r3 : ripes [0, 0] oL3 = [(1, 1)] := by decide +kernel
  have d1 : delE [0, 0] oL3 (2, 1) = 25 := by decide +kernel
  have d2 : delE [0, 0] oL3 (1, 1) = 0 := by decide +kernel
  have r4 : ripes [1, 0] oL4 = [(2, 1)] := by decide +kernel
  have dv1 : delV [0, 0] oL3 (2, 1) = [0, 0] := by rw [delV, d1]; rfl
  have dl1 : delLs [0, 0] oL3 (2, 1) = oL3 := by rw [delLs, d1]; rfl
  have dv2 : delV [0, 0] oL3 (1, 1) = [1, 0] := by rw [delV, d2]; rfl
  have dl2 : delLs [0, 0] oL3 (1, 1) = oL4 := by rw [delLs, d2]; rfl
  refine enterS F_entrepotlaw21_one rfl rfl rfl ?_
  (refine sw_seq ?_; refine sw_region ?_; refine so_1 rfl ?_; refine so_nil ?_; refine sn_then ?_; refine sw_seq ?_; refine sw_region ?_)
  refine so_call rfl rfl rfl (New_Q (n := 2) (by decide) (by decide)) ?_
  rintro _ _ ⟨gq, rfl, rfl⟩
  ((iterate 5 refine so_1 rfl ?_); refine so_nil ?_; refine sn_then ?_; (iterate 2 refine sw_seq ?_); refine sw_region ?_; (iterate 8 refine so_1 rfl ?_))
  refine so_lit [.int .i64 1, .int .i64 1] rfl rfl rfl rfl rfl rfl rfl rfl rfl fun gl1 => ?_
  refine so_callE rfl rfl rfl (at_S (deps := [1, 1])) ?_
  refine so_ent (ent_keep 2 [1, 0] rfl rfl) ?_
  have hA1 := adds_S (b := b) (F := pt gl1 t_int (ints [1, 1]) :: F) (gq := gq) (n := 2) (V := [0, 0]) (L := []) (e := evA 1 2 (.slice (some ⟨gl1, 0, none⟩) 2 2) [1, 1]) (s := 1) b1 e1 (evA_er (j := 0) rfl rfl (by decide)) (evA_ew (by decide) (by decide) (by decide)) (by simp [evA]) (by simp [evA])
  refine so_call rfl rfl rfl (hA1) ?_
  rintro _ _ ⟨rfl, rfl⟩
  refine so_ent (G := que gq 2 [0, 0] oL1 :: F) (ent_keep 2 [0] rfl rfl) ?_
  ((iterate 4 refine so_1 rfl ?_))
  refine so_lit [.int .i64 1, .int .i64 0] rfl rfl rfl rfl rfl rfl rfl rfl rfl fun gl2 => ?_
  refine so_callE rfl rfl rfl (at_S (deps := [1, 0])) ?_
  refine so_ent (ent_keep 2 [1, 0] rfl rfl) ?_
  have hA2 := adds_S (b := b) (F := pt gl2 t_int (ints [1, 0]) :: F) (gq := gq) (n := 2) (V := [0, 0]) (L := oL1) (e := evA 2 1 (.slice (some ⟨gl2, 0, none⟩) 2 2) [1, 0]) (s := 2) b2 e2 (evA_er (j := 0) rfl rfl (by decide)) (evA_ew (by decide) (by decide) (by decide)) (by simp [evA]) (by simp [evA])
  refine so_call rfl rfl rfl (hA2) ?_
  rintro _ _ ⟨rfl, rfl⟩
  refine so_ent (G := que gq 2 [0, 0] oL2 :: F) (ent_keep 2 [0] rfl rfl) ?_
  ((iterate 4 refine so_1 rfl ?_))
  refine so_call rfl rfl rfl (Ripe_Q (gq := gq) (n := 2) (V := [0, 0]) (L := oL2)) ?_
  rw [r2]
  rintro _ _ ⟨A5, c5, rfl, rfl⟩
  refine so_ent (ent_keep 2 [1] rfl rfl) ?_
  ((iterate 5 refine so_1 rfl ?_))
  refine so_lit [.int .i64 0, .int .i64 0] rfl rfl rfl rfl rfl rfl rfl rfl rfl fun gl3 => ?_
  refine so_callE rfl rfl rfl (at_S (deps := [0, 0])) ?_
  refine so_ent (ent_keep 2 [1, 0] rfl rfl) ?_
  have hA3 := adds_S (b := b) (F := pt gl3 t_int (ints [0, 0]) :: F) (gq := gq) (n := 2) (V := [0, 0]) (L := oL2) (e := evA 1 1 (.slice (some ⟨gl3, 0, none⟩) 2 2) [0, 0]) (s := 1) b3 e3 (evA_er (j := 0) rfl rfl (by decide)) (evA_ew (by decide) (by decide) (by decide)) (by simp [evA]) (by simp [evA])
  refine so_call rfl rfl rfl (hA3) ?_
  rintro _ _ ⟨rfl, rfl⟩
  refine so_ent (G := que gq 2 [0, 0] oL3 :: F) (ent_keep 2 [0] rfl rfl) ?_
  ((iterate 2 refine so_1 rfl ?_); refine so_nil ?_; refine sn_then ?_; refine sw_cond_f rfl ?_; refine sw_skip ?_; refine sn_then ?_; (iterate 2 refine sw_seq ?_); refine sw_region ?_; refine so_1 rfl ?_)
  refine so_call rfl rfl rfl (Ripe_Q (gq := gq) (n := 2) (V := [0, 0]) (L := oL3)) ?_
  rw [r3]
  rintro _ _ ⟨A6, c6, rfl, rfl⟩
  (refine so_1 rfl ?_)
  refine so_lit1 rfl rfl rfl rfl rfl rfl rfl rfl (by decide) fun gl4 => ?_
  refine so_callE rfl rfl rfl (SameDots_S (l := [(1, 1)]) (fun w H => (H.oat (k := 1) rfl).sl) (fun w H => (H.blk (k := 0) rfl).sl rfl (by decide)) (by decide)) ?_
  ((iterate 3 refine so_1 rfl ?_))
  refine so_ent (ent_keep 3 [2] rfl rfl) ?_
  refine so_call rfl rfl rfl (takes_S (gq := gq) (n := 2) (r := 2) (m := 1) d1 ⟨by decide, by decide⟩) ?_
  rw [dv1, dl1]
  rintro _ _ ⟨rfl, rfl⟩
  ((iterate 4 refine so_1 rfl ?_))
  refine so_call rfl rfl rfl (takes_S (gq := gq) (n := 2) (r := 1) (m := 1) d2 ⟨by decide, by decide⟩) ?_
  rw [dv2, dl2]
  rintro _ _ ⟨rfl, rfl⟩
  ((iterate 4 refine so_1 rfl ?_))
  refine so_call rfl rfl rfl (Ripe_Q (gq := gq) (n := 2) (V := [1, 0]) (L := oL4)) ?_
  rw [r4]
  rintro _ _ ⟨A7, c7, rfl, rfl⟩
  (refine so_1 rfl ?_)
  refine so_lit1 rfl rfl rfl rfl rfl rfl rfl rfl (by decide) fun gl5 => ?_
  refine so_callE rfl rfl rfl (SameDots_S (l := [(2, 1)]) (fun w H => (H.oat (k := 1) rfl).sl) (fun w H => (H.blk (k := 0) rfl).sl rfl (by decide)) (by decide)) ?_
  ((iterate 2 refine so_1 rfl ?_); refine so_nil ?_; refine sn_then ?_; refine sw_cond_f rfl ?_; refine sw_skip ?_; refine sn_then ?_; refine sw_seq ?_; refine sw_region ?_; (iterate 2 refine so_1 rfl ?_); refine so_nil ?_; refine sn_then ?_; refine sw_ret ?_)
  refine sn_ret rfl (.tmp rfl .nil) (ent_keep 3 [2] rfl rfl) ?_
  exact ⟨gq, rfl, rfl⟩
set_option maxRecDepth 20000 in
set_option maxHeartbeats 4000000 in
theorem awake_S : SC Try.prog n_entrepotlaw21_awake [] b F (fun u F' => u = .bool true ∧ F' = F) := by
  have hl : oL4.length = 2 := by decide +kernel
  have d1 : delE [1, 0] oL4 (2, 1) = 0 := by decide +kernel
  refine enterS F_entrepotlaw21_awake rfl rfl rfl ?_
  (refine sw_seq ?_; refine sw_region ?_; refine so_1 rfl ?_; refine so_nil ?_; refine sn_then ?_; refine sw_seq ?_; refine sw_region ?_)
  refine so_call rfl rfl rfl (one_S) ?_
  rintro _ _ ⟨gq, rfl, rfl⟩
  (refine so_1 rfl ?_; refine so_nil ?_; refine sn_then ?_; refine sw_seq ?_; refine sw_region ?_; (iterate 4 refine so_1 rfl ?_))
  refine so_call rfl rfl rfl (Vector_Q) ?_
  rintro v7 _ rfl
  skip
  refine so_lit [.int .i64 1, .int .i64 0] rfl rfl rfl rfl rfl rfl rfl rfl rfl fun gl => ?_
  refine so_callE rfl rfl rfl (SameInts_S (xs := [1, 0]) (ys := [1, 0]) (vlZ (k := 1) rfl) (fun w H => (H.blk (k := 0) rfl).sl rfl (by decide))) ?_
  ((iterate 3 refine so_1 rfl ?_))
  refine so_ent (ent_keep 3 [2] rfl rfl) ?_
  refine so_call rfl rfl rfl (Held_Q (gq := gq) (n := 2)) ?_
  rintro v13 _ ⟨D, hD, rfl⟩
  have hDl : D.length = 2 := by have := congrArg List.length hD; rw [List.length_map, hl] at this; exact this
  refine so_fact (fun w H => (H.oat (k := 0) rfl).form) ?_
  rw [hDl]
  rintro ⟨A8, c8, rfl, _, _, _⟩
  ((iterate 5 refine so_1 rfl ?_))
  refine so_ent (ent_keep 3 [2] rfl rfl) ?_
  refine so_call rfl rfl rfl (takes_S (gq := gq) (n := 2) (r := 2) (m := 1) d1 ⟨by decide, by decide⟩) ?_
  rintro _ _ ⟨rfl, rfl⟩
  ((iterate 2 refine so_1 rfl ?_); refine so_nil ?_; refine sn_then ?_; refine sw_ret ?_)
  refine sn_ret rfl (.tmp rfl .nil) (ent_keep 1 [] rfl rfl) ?_
  exact ⟨rfl, rfl⟩
end
end Go.Proofs.Ytgkhflcpbjlmiaa
/- Queues, part thirty-three: HoldScript, HoldNone, HoldKnown. Conditions: none. -/
namespace Go.Proofs.Ytgkhflcpbjlmiaa
open Go.Eng Go.RowKit Go.WideMaps Go.Heap

structure ALs (W : World) (v : Value) (l : List Ac) : Prop where
  al : AL W v l
  ew : ∀ a ∈ l, EW a.e
  n64 : ∀ a ∈ l, I64 a.n
abbrev rdAc : Rdg (Int × Int × ((Int × Int) × (Value × List Int) × Int × ByteArray × ByteArray × List Int × (Value × List (List Int)))) := rdN 1 (rdI .i64) (rdN 1 (rdI .i64) rdEv)
def acOf (x : Int × Int × ((Int × Int) × (Value × List Int) × Int × ByteArray × ByteArray × List Int × (Value × List (List Int)))) : Ac := ⟨x.1, x.2.1, evOf x.2.2⟩
theorem als_of_rd {W : World} {v : Value} {x : Value × List _} (h : rdL 41 rdAc W [v] x) : ALs W v (x.2.map acOf) := by
  obtain ⟨h1, h2, h3⟩ := rdL_flat (g := acOf) (f := acC) (p := fun a => EW a.e ∧ ER W a.e ∧ I64 a.n) (fun cs x hx => by
    obtain ⟨⟨hx1, _⟩, ⟨hx2, hx3⟩, hx4⟩ := hx
    obtain ⟨h1, h2, h3⟩ := ev_of_rd hx4
    exact ⟨cut_eq hx1 (cut_eq hx2 h1), h2, h3, i64wf' hx3⟩) h
  simp only [List.cons.injEq, and_true] at h1
  subst h1
  exact ⟨⟨h2, fun m hm => (h3 m hm).2.1⟩, fun m hm => (h3 m hm).1, fun m hm => (h3 m hm).2.2⟩
theorem AL.ext {w w' : World} {v : Value} {l : List Ac} (h : AL w v l) (x : Ext w w') : AL w' v l := ⟨h.sl.ext x, fun m hm => (h.er m hm).ext x⟩
set_option maxRecDepth 20000 in
set_option maxHeartbeats 4000000 in
theorem walk_HoldScript {W : World} {n : Int} {v : Value} {l : List Ac} (h : ALs W v l) : Calls Try.prog n_entrepotlaw21_HoldScript #[.int .i64 n, v] W (fun e w' => e = .returned (.bool true) ∧ Ext W w') := by
  refine law_of (args := [.int .i64 n, v]) ?_
  have hl : ∀ {F : List SP} {k : Nat}, nth F k = some (Is W) → ∀ w, Sat W F w → AL w v l := fun hk w H => h.al.ext (H.is hk)
  obtain ⟨A0, c0, rfl, _, _, _, k4, _⟩ := sl_form h.al.sl
  refine enterS F_entrepotlaw21_HoldScript rfl rfl rfl ?_
  (refine sw_seq ?_; refine sw_region ?_; refine so_1 rfl ?_; refine so_nil ?_; refine sn_then ?_; (iterate 2 refine sw_seq ?_); refine sw_region ?_; refine so_1 rfl ?_)
  refine so_call rfl rfl rfl (Long_S (l := l) (hl (k := 0) rfl) fun e he => (h.ew e he).l32) ?_
  rintro _ _ ⟨q, hq, rfl, rfl⟩
  cases q with
  | true =>
    (refine so_nil ?_; refine sn_then ?_; refine sw_cond_t rfl ?_; refine sw_seq ?_; refine sw_region ?_)
    refine so_callE rfl rfl rfl (awake_S) ?_
    (refine so_1 rfl ?_; refine so_nil ?_; refine sn_then ?_; refine sw_ret ?_; refine sn_then_ret ?_)
    refine sn_ret rfl (.tmp rfl .nil) (Ent.refl _) ?_
    exact ⟨rfl, rfl⟩
  | false =>
  obtain ⟨hl90, hle⟩ := hq rfl
  (refine so_nil ?_; refine sn_then ?_; refine sw_cond_f rfl ?_; refine sw_skip ?_; refine sn_then ?_; refine sw_seq ?_; refine sw_region ?_; refine so_1 rfl ?_)
  by_cases hn : n < 1 ∨ 16 < n
  · refine so_callE rfl rfl rfl ((New_bad hn)) ?_
    ((iterate 5 refine so_1 rfl ?_); refine so_nil ?_; refine sn_then ?_; refine sw_seq ?_; refine sw_region ?_; refine so_1 rfl ?_)
    refine so_callE rfl rfl rfl ((rNew_bad hn)) ?_
    ((iterate 5 refine so_1 rfl ?_); refine so_nil ?_; refine sn_then ?_; (iterate 2 refine sw_seq ?_); refine sw_region ?_; (iterate 10 refine so_1 rfl ?_); refine so_nil ?_; refine sn_then ?_; refine sw_cond_f rfl ?_; refine sw_skip ?_; refine sn_then ?_; (iterate 2 refine sw_seq ?_); refine sw_region ?_; refine so_1 rfl ?_; refine so_nil ?_; refine sn_then ?_; refine sw_block ?_)
    refine sw_loop (S := Unit) (fun _ => [(7, .pointer none)]) (fun _ => [Is W]) (fun _ => True) (fun _ => 0) () ⟨rfl, trivial⟩ (Ent.refl _) trivial ?_
    intro _ _
    ((iterate 2 refine sw_seq ?_); refine sw_region ?_; (iterate 8 refine so_1 rfl ?_); refine so_nil ?_; refine sn_then ?_; refine sw_cond_f rfl ?_; refine sw_exit ?_; refine sn_then_exit ?_; refine sn_loop_exit ?_; refine sn_block_exit ?_; refine sn_then ?_; refine sw_seq ?_; refine sw_region ?_)
    refine so_callE rfl rfl rfl (awake_S) ?_
    (refine so_1 rfl ?_; refine so_nil ?_; refine sn_then ?_; refine sw_ret ?_)
    refine sn_ret rfl (.tmp rfl .nil) (Ent.refl _) ?_
    exact ⟨rfl, rfl⟩
  · obtain ⟨m, rfl⟩ : ∃ m : Nat, n = (m : Int) := ⟨n.toNat, by omega⟩
    refine so_call rfl rfl rfl (New_Q (n := m) (by omega) (by omega)) ?_
    rintro _ _ ⟨gq, rfl, rfl⟩
    ((iterate 5 refine so_1 rfl ?_); refine so_nil ?_; refine sn_then ?_; refine sw_seq ?_; refine sw_region ?_; refine so_1 rfl ?_)
    refine so_call rfl rfl rfl (rNew_Q (n := m) (by omega) (by omega)) ?_
    rintro _ _ ⟨gw, rfl, rfl⟩
    ((iterate 5 refine so_1 rfl ?_); refine so_nil ?_; refine sn_then ?_; (iterate 2 refine sw_seq ?_); refine sw_region ?_; (iterate 10 refine so_1 rfl ?_); refine so_nil ?_; refine sn_then ?_; refine sw_cond_f rfl ?_; refine sw_skip ?_; refine sn_then ?_; (iterate 2 refine sw_seq ?_); refine sw_region ?_; refine so_1 rfl ?_; refine so_nil ?_; refine sn_then ?_; refine sw_block ?_)
    refine sw_loop (S := Nat × List Int × List Wn) (fun s => [(1, .slice A0 l.length c0), (5, .pointer (some ⟨gq, 0, none⟩)), (7, .pointer (some ⟨gw, 0, none⟩)), (9, .int .i64 (s.1 : Int))]) (fun s => que gq m s.2.1 s.2.2 :: rqu gw m s.2.1 s.2.2 :: [Is W]) (fun s => s.1 ≤ l.length) (fun s => l.length - s.1) (0, List.replicate m 0, []) ⟨rfl, rfl, rfl, rfl, trivial⟩ (ent_keep 2 [1, 0] rfl rfl) (Nat.zero_le _) ?_
    rintro ⟨i, V, L⟩ hi
    dsimp only at hi ⊢
    ((iterate 2 refine sw_seq ?_); refine sw_region ?_; (iterate 8 refine so_1 rfl ?_); refine so_nil ?_; refine sn_then ?_)
    refine sw_if rfl (fun h1 => ?_) (fun h1 => ?_)
    · have h1' : i < l.length := by omega
      obtain ⟨bk, off, rfl⟩ := k4 (by omega)
      have hmem := List.getElem_mem h1'
      have hc : ∀ {F : List SP} {k : Nat}, nth F k = some (Is W) → ∀ w, Sat W F w → ∀ j, j < 41 → w.cell? ⟨bk, off + i * 41 + j, none⟩ = (acC l[i])[j]? := fun hk w H j hj => fl_cell (hl hk w H).sl (fun a ha => acC_len (h.ew a ha).l32) h1' hj
      have hxe := h.ew _ hmem
      have hx64 := h.n64 _ hmem
      have hxr : ∀ {F : List SP} {k : Nat}, nth F k = some (Is W) → ∀ w, Sat W F w → ER w l[i].e := fun hk w H => (hl hk w H).er _ hmem
      obtain ⟨hx1, hx2, _, _⟩ := hle _ hmem
      generalize l[i] = x at *
      (refine sw_skip ?_; refine sn_then ?_; refine sw_seq ?_; refine sw_block ?_; refine sw_seq ?_; refine sw_region ?_; (iterate 4 refine so_1 rfl ?_); refine so_2 rfl (by omega) ?_)
      refine so_rd rfl (fun w H => ex_loadN (cs := acC x) rfl rfl rfl (acC_len hxe.l32) (fun j hj => by rw [acC_len hxe.l32] at hj; rw [mulz_eq, idx_lt]; exact hc (k := 2) rfl w H j hj)) rfl ?_
      refine so_call rfl rfl rfl (acted_S (gq := gq) (gw := gw) (n := m) (V := V) (L := L) (hxr (k := 0) rfl) hxe hx64 (by omega) (by omega)) ?_
      rintro _ _ ⟨rfl, rfl⟩
      ((iterate 6 refine so_1 rfl ?_); refine so_2 rfl (by omega) ?_; (iterate 2 refine so_1 rfl ?_))
      refine so_rd rfl (fun w H => ex_loadN (cs := [.int .i64 x.e.r, .int .i64 x.e.n]) rfl rfl rfl rfl (fun j hj => by
        rw [mulz_eq, idx_lt]
        rcases j with _ | _ | j
        · exact (hc (k := 2) rfl w H 2 (by omega)).trans rfl
        · exact (hc (k := 2) rfl w H 3 (by omega)).trans rfl
        · simp only [List.length_cons, List.length_nil] at hj; omega)) rfl ?_
      refine so_call rfl rfl rfl (stands_S (gq := gq) (gw := gw) (n := m) (d := (x.e.r, x.e.n)) hxe.dot) ?_
      rintro _ _ ⟨rfl, rfl⟩
      ((iterate 2 refine so_1 rfl ?_); refine so_nil ?_; refine sn_then ?_; refine sw_cond_f rfl ?_; refine sw_skip ?_; refine sn_block ?_; refine sn_then ?_; refine sw_region ?_; refine so_1 rfl ?_; refine so_2 rfl (by (unfold I64; omega)) ?_; refine so_1 rfl ?_; refine so_nil ?_)
      refine sn_round (i + 1, (actSt V L x).1, (actSt V L x).2) ⟨rfl, rfl, rfl, rfl, trivial⟩ (Ent.refl _) ?_ ?_
      · show i + 1 ≤ l.length
        omega
      · show l.length - (i + 1) < l.length - i
        omega
    · (refine sw_exit ?_; refine sn_then_exit ?_; refine sn_loop_exit ?_; refine sn_block_exit ?_; refine sn_then ?_; refine sw_seq ?_; refine sw_region ?_)
      refine so_callE rfl rfl rfl (awake_S) ?_
      (refine so_1 rfl ?_; refine so_nil ?_; refine sn_then ?_; refine sw_ret ?_)
      refine sn_ret rfl (.tmp rfl .nil) (ent_keep 2 [] rfl rfl) ?_
      exact ⟨rfl, rfl⟩
end Go.Proofs.Ytgkhflcpbjlmiaa
/- Queues, part thirty-four: HoldNone, HoldKnown. Conditions: none. -/
namespace Go.Proofs.Ytgkhflcpbjlmiaa
open Go.Eng Go.RowKit Go.WideMaps Go.Heap

theorem none_more {P : Program} {f : Nat} {p v : Value} {b : World} {F : List SP} (h : ∀ A : List SP, SC P f [p] b (A ++ F) (fun u G => u = v ∧ G = A ++ F)) (B : List SP) : ∀ A : List SP, SC P f [p] b (A ++ (B ++ F)) (fun u G => u = v ∧ G = A ++ (B ++ F)) := fun A => by
  have := h (A ++ B)
  rwa [List.append_assoc] at this
set_option maxRecDepth 20000 in
set_option maxHeartbeats 4000000 in
theorem walk_HoldNone {W : World} {n : Int} {v : Value} {e : Ev} (h : EA W v e) : Calls Try.prog n_entrepotlaw21_HoldNone #[v, .int .i64 n] W (fun e w' => e = .returned (.bool true) ∧ Ext W w') := by
  refine law_of (args := [v, .int .i64 n]) ?_
  obtain ⟨rfl, hew, her⟩ := h
  have h32 := hew.l32
  have hr : ∀ {F : List SP} {k : Nat}, nth F k = some (Is W) → ∀ w, Sat W F w → ER w e := fun hk w H => her.ext (H.is hk)
  refine enterS F_entrepotlaw21_HoldNone rfl rfl rfl ?_
  (refine sw_seq ?_; refine sw_region ?_)
  refine so_box rfl rfl rfl rfl rfl fun g2 => ?_
  (refine so_1 rfl ?_; refine so_nil ?_; refine sn_then ?_; (iterate 2 refine sw_seq ?_); refine sw_region ?_)
  refine so_ldA 0 rfl rfl rfl rfl rfl rfl (segO_all (by rw [evC_len h32]; rfl)) rfl ?_
  refine so_call rfl rfl rfl (LongEvent_S h32 (hr (k := 1) rfl)) ?_
  rintro _ _ ⟨q, _, rfl, rfl⟩
  cases q with
  | true =>
    (refine so_nil ?_; refine sn_then ?_; refine sw_cond_t rfl ?_; refine sw_seq ?_; refine sw_region ?_)
    refine so_callE rfl rfl rfl (awake_S) ?_
    (refine so_1 rfl ?_; refine so_nil ?_; refine sn_then ?_; refine sw_ret ?_; refine sn_then_ret ?_)
    refine sn_ret rfl (.tmp rfl .nil) (ent_keep 1 [] rfl rfl) ?_
    exact ⟨rfl, rfl⟩
  | false =>
  (refine so_nil ?_; refine sn_then ?_; refine sw_cond_f rfl ?_; refine sw_skip ?_; refine sn_then ?_; refine sw_seq ?_; refine sw_region ?_; refine so_1 rfl ?_)
  refine so_box rfl rfl rfl rfl rfl fun g20 => ?_
  refine so_lit [.pointer none, .pointer (some ⟨g20, 0, none⟩)] rfl rfl rfl rfl rfl rfl rfl rfl rfl fun g21 => ?_
  (refine so_1 rfl ?_; refine so_nil ?_; refine sn_then ?_; (iterate 2 refine sw_seq ?_); refine sw_region ?_; refine so_1 rfl ?_; refine so_nil ?_; refine sn_then ?_; refine sw_block ?_)
  refine sw_loop (S := Nat) (fun i => [(1, .int .i64 n), (2, .pointer (some ⟨g2, 0, none⟩)), (5, .slice (some ⟨g21, 0, none⟩) 2 2), (6, .int .i64 (i : Int))]) (fun _ => pt g21 t_p_hold_Queue [.pointer none, .pointer (some ⟨g20, 0, none⟩)] :: pt g20 t_hold_Queue [.slice none 0 0, .slice none 0 0, .map none] :: pt g2 t_api_Event (evC e) :: [Is W]) (fun i => i ≤ 2) (fun i => 2 - i) 0 ⟨rfl, rfl, rfl, rfl, trivial⟩ (Ent.refl _) (Nat.zero_le _) ?_
  intro i hi
  have hp : i < 2 → ∃ q, nth [Value.pointer none, .pointer (some ⟨g20, 0, none⟩)] (0 + mulz (i : Int).toNat 1) = some (.pointer q) ∧ ∀ A : List SP, SC Try.prog n_p_hold_Queue_none [.pointer q] W (A ++ (pt g21 t_p_hold_Queue [.pointer none, .pointer (some ⟨g20, 0, none⟩)] :: pt g20 t_hold_Queue [.slice none 0 0, .slice none 0 0, .map none] :: pt g2 t_api_Event (evC e) :: [Is W]))
      (fun v F' => v = .bool true ∧ F' = A ++ (pt g21 t_p_hold_Queue [.pointer none, .pointer (some ⟨g20, 0, none⟩)] :: pt g20 t_hold_Queue [.slice none 0 0, .slice none 0 0, .map none] :: pt g2 t_api_Event (evC e) :: [Is W])) := by
    intro h
    rcases (show i = 0 ∨ i = 1 by omega) with rfl | rfl
    · exact ⟨_, rfl, fun A => none_nil⟩
    · refine ⟨_, rfl, fun A => ?_⟩
      have h2 := none_zero (gq := g20) (b := W) (F := A ++ (pt g21 t_p_hold_Queue [.pointer none, .pointer (some ⟨g20, 0, none⟩)] :: pt g2 t_api_Event (evC e) :: [Is W]))
      have hperm : (A ++ (pt g21 t_p_hold_Queue [.pointer none, .pointer (some ⟨g20, 0, none⟩)] :: pt g20 t_hold_Queue [.slice none 0 0, .slice none 0 0, .map none] :: pt g2 t_api_Event (evC e) :: [Is W])).Perm
          (pt g20 t_hold_Queue [.slice none 0 0, .slice none 0 0, .map none] :: (A ++ (pt g21 t_p_hold_Queue [.pointer none, .pointer (some ⟨g20, 0, none⟩)] :: pt g2 t_api_Event (evC e) :: [Is W]))) :=
        (List.Perm.append_left A (.swap _ _ _)).trans List.perm_middle
      exact h2.at (ent_perm hperm) (ent_perm hperm.symm)
  ((iterate 2 refine sw_seq ?_); refine sw_region ?_; (iterate 4 refine so_1 rfl ?_); refine so_nil ?_; refine sn_then ?_)
  refine sw_if rfl (fun h => ?_) (fun h => ?_)
  · obtain ⟨q, hq1, hq2⟩ := hp (by omega)
    clear hp
    (refine sw_skip ?_; refine sn_then ?_; refine sw_seq ?_; refine sw_block ?_; refine sw_seq ?_; refine sw_region ?_; (iterate 2 refine so_1 rfl ?_); refine so_2 rfl (by omega) ?_)
    refine so_ld 0 rfl rfl rfl rfl rfl rfl hq1 rfl ?_
    (refine so_1 rfl ?_; refine so_nil ?_; refine sn_then ?_; refine sw_seq ?_; refine sw_region ?_; refine so_1 rfl ?_)
    refine so_ldA 2 rfl rfl rfl rfl rfl rfl (segO_all (by rw [evC_len h32]; rfl)) rfl ?_
    (refine so_1 rfl ?_)
    refine so_callE rfl rfl rfl (NAdd_S hq2) ?_
    ((iterate 5 refine so_1 rfl ?_); refine so_nil ?_; refine sn_then ?_; refine sw_seq ?_; refine sw_region ?_; (iterate 2 refine so_1 rfl ?_); refine so_l 2 rfl rfl rfl ?_)
    refine so_callE rfl rfl rfl (NDeliver_S (d := (e.r, e.n)) hq2) ?_
    ((iterate 3 refine so_1 rfl ?_))
    refine so_new rfl rfl rfl rfl rfl fun g10 => ?_
    (refine so_s1 0 rfl rfl rfl rfl ?_; refine so_1 rfl ?_; refine so_nil ?_; refine sn_then ?_; refine sw_seq ?_; refine sw_region ?_; (iterate 2 refine so_1 rfl ?_))
    refine so_callE rfl rfl rfl (NOwn_S (r := n) (none_more hq2 [_])) ?_
    ((iterate 3 refine so_1 rfl ?_))
    refine so_new rfl rfl rfl rfl rfl fun g12 => ?_
    (refine so_s1 0 rfl rfl rfl rfl ?_; refine so_1 rfl ?_; refine so_nil ?_; refine sn_then ?_; refine sw_seq ?_; refine sw_region ?_; (iterate 2 refine so_1 rfl ?_); refine so_l 4 rfl rfl rfl ?_)
    refine so_callE rfl rfl rfl (NHolds_S (d := (e.r, e.n)) (none_more hq2 [_, _])) ?_
    ((iterate 3 refine so_1 rfl ?_))
    refine so_new rfl rfl rfl rfl rfl fun g14 => ?_
    (refine so_s1 0 rfl rfl rfl rfl ?_; refine so_1 rfl ?_; refine so_nil ?_; refine sn_then ?_; refine sw_seq ?_; refine sw_region ?_; (iterate 14 refine so_1 rfl ?_); refine so_l 2 rfl rfl rfl ?_; refine so_1 rfl ?_)
    refine so_callE rfl rfl rfl (SameEvent_S (e := ev0) (f := ev0) rfl (fun w _ => nil_er w) (fun w _ => nil_er w) rfl (fun x hx => by simp at hx) (by decide)) ?_
    ((iterate 3 refine so_1 rfl ?_); refine so_l 1 rfl rfl rfl ?_; refine so_1 rfl ?_)
    refine so_pu rfl (pu_neA rfl rfl (eq_dot _ _ _ _)) rfl ?_
    refine so_know 81 (.bool false) rfl rfl ?_
    ((iterate 6 refine so_1 rfl ?_))
    refine so_callE rfl rfl rfl (NVector_S (none_more hq2 [_, _, _])) ?_
    ((iterate 2 refine so_1 rfl ?_))
    refine so_callE rfl rfl rfl (NHeld_S (none_more hq2 [_, _, _])) ?_
    (refine so_1 rfl ?_; refine so_2 rfl (by (unfold I64; omega)) ?_; refine so_1 rfl ?_)
    refine so_callE rfl rfl rfl (NRipe_S (none_more hq2 [_, _, _])) ?_
    (refine so_1 rfl ?_; refine so_2 rfl (by (unfold I64; omega)) ?_; (iterate 2 refine so_1 rfl ?_); refine so_nil ?_; refine sn_then ?_; refine sw_cond_f rfl ?_; refine sw_skip ?_; refine sn_block ?_; refine sn_then ?_; refine sw_region ?_; refine so_1 rfl ?_; refine so_2 rfl (by (unfold I64; omega)) ?_; refine so_1 rfl ?_; refine so_nil ?_)
    refine sn_round (i + 1) ⟨rfl, rfl, rfl, rfl, trivial⟩ (ent_keep 3 [] rfl rfl) ?_ ?_
    · show i + 1 ≤ 2
      omega
    · show 2 - (i + 1) < 2 - i
      omega
  · (refine sw_exit ?_; refine sn_then_exit ?_; refine sn_loop_exit ?_; refine sn_block_exit ?_; refine sn_then ?_; refine sw_seq ?_; refine sw_region ?_)
    refine so_callE rfl rfl rfl (awake_S) ?_
    (refine so_1 rfl ?_; refine so_nil ?_; refine sn_then ?_; refine sw_ret ?_)
    refine sn_ret rfl (.tmp rfl .nil) (ent_keep 3 [] rfl rfl) ?_
    exact ⟨rfl, rfl⟩
end Go.Proofs.Ytgkhflcpbjlmiaa
/- Queues, part thirty-five: HoldKnown. Conditions: none. -/
namespace Go.Proofs.Ytgkhflcpbjlmiaa
open Go.Eng Go.RowKit Go.WideMaps Go.Heap

def oL5 : List Wn := addL [1, 0] oL4 (evA 2 1 nS [1, 0]) 1
def oL6 : List Wn := delW (2, 1) oL5
def oL7 : List Wn := delW (1, 2) oL6
section
variable {b : World} {F : List SP}
/-- An event of the chapter is added. -/
theorem addA_S {gq n : Nat} {V : List Int} {L : List Wn} {r m s err : Int} {want : Bool} {deps : List Int} {g : Nat} (h1 : addB V L (evA r m nS deps) s = want) (h2 : addE V L (evA r m nS deps) s = err) (h3 : EW (evA r m nS deps)) (hl : deps.length = 2) :
    SC Try.prog n_entrepotlaw21_adds [.pointer (some ⟨gq, 0, none⟩), evV (evA r m (.slice (some ⟨g, 0, none⟩) 2 2) deps), .int .i64 s, .bool want, .int .i64 err] b (pt g t_int (ints deps) :: que gq n V L :: F) (fun u F' => u = .bool true ∧ F' = que gq n V (addL V L (evA r m nS deps) s) :: F) := by
  have hA := adds_S (b := b) (F := pt g t_int (ints deps) :: F) (gq := gq) (n := n) (V := V) (L := L) (e := evA r m (.slice (some ⟨g, 0, none⟩) 2 2) deps) (s := s) h1 h2 (evA_er (j := 0) rfl hl.symm (by decide)) (h3.own _ _) (by simp [evA, hl]) (by simp [evA])
  refine (hA.ent (ent_keep 2 [1, 0] rfl rfl)).out ?_
  rintro u _ ⟨h4, rfl⟩
  exact ⟨_, ent_keep 2 [0] rfl rfl, h4, rfl⟩
set_option maxRecDepth 20000 in
set_option maxHeartbeats 4000000 in
theorem HoldKnown_S : SC Try.prog n_entrepotlaw21_HoldKnown [] b F (fun u F' => u = .bool true ∧ F' = F) := by
  have b1 : addB [1, 0] oL4 (evA 1 1 nS [0, 0]) 2 = false := by decide +kernel
  have e1 : addE [1, 0] oL4 (evA 1 1 nS [0, 0]) 2 = 0 := by decide +kernel
  have l1 : addL [1, 0] oL4 (evA 1 1 nS [0, 0]) 2 = oL4 := by rw [addL, if_pos (.inr (by decide +kernel))]
  have b2 : addB [1, 0] oL4 (evA 2 1 nS [1, 0]) 1 = false := by decide +kernel
  have e2 : addE [1, 0] oL4 (evA 2 1 nS [1, 0]) 1 = 0 := by decide +kernel
  have hs : (holdsW (2, 1) oL5).2 = (1, true) := by decide +kernel
  have d1 : delE [1, 0] oL5 (2, 1) = 0 := by decide +kernel
  have dv1 : delV [1, 0] oL5 (2, 1) = [1, 1] := by rw [delV, d1]; rfl
  have dl1 : delLs [1, 0] oL5 (2, 1) = oL6 := by rw [delLs, d1]; rfl
  have d2 : delE [1, 1] oL6 (1, 2) = 0 := by decide +kernel
  have dv2 : delV [1, 1] oL6 (1, 2) = [2, 1] := by rw [delV, d2]; rfl
  have dl2 : delLs [1, 1] oL6 (1, 2) = oL7 := by rw [delLs, d2]; rfl
  have d3 : delE [2, 1] oL7 (1, 2) = 26 := by decide +kernel
  have dv3 : delV [2, 1] oL7 (1, 2) = [2, 1] := by rw [delV, d3]; rfl
  have dl3 : delLs [2, 1] oL7 (1, 2) = oL7 := by rw [delLs, d3]; rfl
  have l7 : oL7.length = 0 := by decide +kernel
  have o1 : ownE [2, 1] oL7 1 = 0 := by decide +kernel
  have o2 : ownD [2, 1] oL7 1 = (1, 3) := by decide +kernel
  have o3 : ownV [2, 1] oL7 1 = [3, 1] := by decide +kernel
  have o4 : ownE [3, 1] oL7 3 = 3 := by decide +kernel
  have o5 : ownV [3, 1] oL7 3 = [3, 1] := by rw [ownV, o4]; rfl
  have o6 : ownD [3, 1] oL7 3 = (0, 0) := by rw [ownD, o4]; rfl
  have b4 : addB [3, 1] oL7 (evA 1 1 nS [1, 0]) 1 = false := by decide +kernel
  have e4 : addE [3, 1] oL7 (evA 1 1 nS [1, 0]) 1 = 2 := by decide +kernel
  have l4 : addL [3, 1] oL7 (evA 1 1 nS [1, 0]) 1 = oL7 := by rw [addL, if_pos (.inl (by decide +kernel))]
  have b5 : addB [3, 1] oL7 (evA 1 1 nS [0, 0]) 3 = false := by decide +kernel
  have e5 : addE [3, 1] oL7 (evA 1 1 nS [0, 0]) 3 = 2 := by decide +kernel
  refine enterS F_entrepotlaw21_HoldKnown rfl rfl rfl ?_
  (refine sw_seq ?_; refine sw_region ?_; refine so_1 rfl ?_; refine so_nil ?_; refine sn_then ?_; refine sw_seq ?_; refine sw_region ?_)
  refine so_call rfl rfl rfl (one_S) ?_
  rintro _ _ ⟨gq, rfl, rfl⟩
  refine so_fact (que_qi (k := 0) rfl) fun hq4 => ?_
  (refine so_1 rfl ?_; refine so_nil ?_; refine sn_then ?_; (iterate 2 refine sw_seq ?_); refine sw_region ?_; (iterate 4 refine so_1 rfl ?_))
  refine so_lit [.int .i64 0, .int .i64 0] rfl rfl rfl rfl rfl rfl rfl rfl rfl fun gl1 => ?_
  refine so_callE rfl rfl rfl (at_S (deps := [0, 0])) ?_
  refine so_call rfl rfl rfl (addA_S (gq := gq) (n := 2) (g := gl1) b1 e1 (evA_ew (by decide) (by decide) (by decide)) rfl) ?_
  rw [l1]
  rintro _ _ ⟨rfl, rfl⟩
  ((iterate 4 refine so_1 rfl ?_))
  refine so_lit [.int .i64 1, .int .i64 0] rfl rfl rfl rfl rfl rfl rfl rfl rfl fun gl2 => ?_
  refine so_callE rfl rfl rfl (at_S (deps := [1, 0])) ?_
  refine so_call rfl rfl rfl (addA_S (gq := gq) (n := 2) (g := gl2) b2 e2 (evA_ew (by decide) (by decide) (by decide)) rfl) ?_
  rintro _ _ ⟨rfl, rfl⟩
  refine so_ent (G := que gq 2 [1, 0] oL5 :: F) (Ent.refl _) ?_
  refine so_fact (que_qi (k := 0) rfl) fun hq5 => ?_
  ((iterate 2 refine so_1 rfl ?_); refine so_nil ?_; refine sn_then ?_; refine sw_cond_f rfl ?_; refine sw_skip ?_; refine sn_then ?_; refine sw_seq ?_; refine sw_region ?_; (iterate 2 refine so_1 rfl ?_))
  refine so_call rfl rfl rfl (Holds_U (gq := gq) (d := (2, 1)) ⟨by decide, by decide⟩ hq5) ?_
  rintro _ _ ⟨y, s, is, hy, rfl, rfl⟩
  have hy2 : (s, is) = (1, true) := by rw [← hs, ← hy.eq]
  simp only [Prod.mk.injEq] at hy2
  obtain ⟨rfl, rfl⟩ := hy2
  have hy32 := hy.ew.l32
  refine so_fact (rows_one (e := y) (i := 0) (j := 1) rfl rfl) fun hone => ?_
  ((iterate 3 refine so_1 rfl ?_))
  refine so_new rfl rfl rfl rfl rfl fun g2 => ?_
  refine so_stW 0 rfl rfl rfl rfl rfl rfl rfl (wsC_len hy32) (wsC_one hone.1 hone.2) (by rw [wsC_len hy32]; rfl) ?_
  (refine so_1 rfl ?_; refine so_nil ?_; refine sn_then ?_; (iterate 2 refine sw_seq ?_); refine sw_region ?_; (iterate 4 refine so_1 rfl ?_))
  refine so_ld 0 rfl rfl rfl rfl rfl rfl (wsC_src hy32) rfl ?_
  ((iterate 4 refine so_1 rfl ?_))
  refine so_ent (ent_keep 4 [3] rfl rfl) ?_
  refine so_call rfl rfl rfl (takes_S (gq := gq) (n := 2) (r := 2) (m := 1) d1 ⟨by decide, by decide⟩) ?_
  rw [dv1, dl1]
  rintro _ _ ⟨rfl, rfl⟩
  ((iterate 4 refine so_1 rfl ?_))
  refine so_call rfl rfl rfl (takes_S (gq := gq) (n := 2) (r := 1) (m := 2) d2 ⟨by decide, by decide⟩) ?_
  rw [dv2, dl2]
  rintro _ _ ⟨rfl, rfl⟩
  ((iterate 4 refine so_1 rfl ?_))
  refine so_call rfl rfl rfl (takes_S (gq := gq) (n := 2) (r := 1) (m := 2) d3 ⟨by decide, by decide⟩) ?_
  rw [dv3, dl3]
  rintro _ _ ⟨rfl, rfl⟩
  ((iterate 4 refine so_1 rfl ?_))
  refine so_call rfl rfl rfl (Vector_Q) ?_
  rintro v57 _ rfl
  skip
  refine so_lit [.int .i64 2, .int .i64 1] rfl rfl rfl rfl rfl rfl rfl rfl rfl fun gl => ?_
  refine so_callE rfl rfl rfl (SameInts_S (xs := [2, 1]) (ys := [2, 1]) (vlZ (k := 1) rfl) (fun w H => (H.blk (k := 0) rfl).sl rfl (by decide))) ?_
  ((iterate 4 refine so_1 rfl ?_))
  refine so_ent (ent_keep 3 [2] rfl rfl) ?_
  refine so_call rfl rfl rfl (Held_Q (gq := gq) (n := 2)) ?_
  rintro v13 _ ⟨D, hD, rfl⟩
  have hDl : D.length = 0 := by have := congrArg List.length hD; rw [List.length_map, l7] at this; exact this
  refine so_fact (fun w H => (H.oat (k := 0) rfl).form) ?_
  rw [hDl]
  rintro ⟨A8, c8, rfl, _, _, _⟩
  ((iterate 3 refine so_1 rfl ?_); refine so_nil ?_; refine sn_then ?_; refine sw_cond_f rfl ?_; refine sw_skip ?_; refine sn_then ?_; refine sw_seq ?_; refine sw_region ?_; refine so_1 rfl ?_)
  refine so_ent (ent_keep 3 [2] rfl rfl) ?_
  refine so_call rfl rfl rfl (Own_Q (gq := gq) (n := 2) (V := [2, 1]) (L := oL7) (r := 1) (by unfold I64; decide)) ?_
  rw [o1, o2, o3]
  rintro _ _ ⟨rfl, rfl⟩
  ((iterate 3 refine so_1 rfl ?_))
  refine so_new rfl rfl rfl rfl rfl fun g4 => ?_
  (refine so_s1 0 rfl rfl rfl rfl ?_; refine so_1 rfl ?_; refine so_nil ?_; refine sn_then ?_; refine sw_seq ?_; refine sw_region ?_; refine so_1 rfl ?_)
  refine so_ent (ent_keep 2 [1, 0] rfl rfl) ?_
  refine so_call rfl rfl rfl (Own_Q (gq := gq) (n := 2) (V := [3, 1]) (L := oL7) (r := 3) (by unfold I64; decide)) ?_
  rw [o4, o5, o6]
  rintro _ _ ⟨rfl, rfl⟩
  ((iterate 3 refine so_1 rfl ?_))
  refine so_new rfl rfl rfl rfl rfl fun g6 => ?_
  (refine so_s1 0 rfl rfl rfl rfl ?_; refine so_1 rfl ?_; refine so_nil ?_; refine sn_then ?_; refine sw_seq ?_; refine sw_region ?_)
  refine so_callE rfl rfl rfl ((New_bad (n := 17) (by decide))) ?_
  ((iterate 5 refine so_1 rfl ?_); refine so_nil ?_; refine sn_then ?_; refine sw_seq ?_; refine sw_region ?_)
  refine so_callE rfl rfl rfl (awake_S) ?_
  (refine so_1 rfl ?_; refine so_l 2 rfl rfl rfl ?_; refine so_1 rfl ?_)
  refine so_pu rfl (pu_eqA rfl rfl (eq_dot _ _ _ _)) rfl ?_
  refine so_know 86 (.bool true) rfl rfl ?_
  ((iterate 11 refine so_1 rfl ?_))
  refine so_ent (ent_keep 3 [1] rfl rfl) ?_
  refine so_lit [.int .i64 1, .int .i64 0] rfl rfl rfl rfl rfl rfl rfl rfl rfl fun gl3 => ?_
  refine so_callE rfl rfl rfl (at_S (deps := [1, 0])) ?_
  refine so_call rfl rfl rfl (addA_S (gq := gq) (n := 2) (g := gl3) b4 e4 (evA_ew (by decide) (by decide) (by decide)) rfl) ?_
  rw [l4]
  rintro _ _ ⟨rfl, rfl⟩
  ((iterate 3 refine so_1 rfl ?_))
  refine so_lit [.int .i64 0, .int .i64 0] rfl rfl rfl rfl rfl rfl rfl rfl rfl fun gl4 => ?_
  refine so_callE rfl rfl rfl (at_S (deps := [0, 0])) ?_
  refine so_call rfl rfl rfl (addA_S (gq := gq) (n := 2) (g := gl4) b5 e5 (evA_ew (by decide) (by decide) (by decide)) rfl) ?_
  rintro _ _ ⟨rfl, rfl⟩
  ((iterate 6 refine so_1 rfl ?_); refine so_nil ?_; refine sn_then ?_; refine sw_ret ?_)
  refine sn_ret rfl (.tmp rfl .nil) (ent_keep 1 [] rfl rfl) ?_
  exact ⟨rfl, rfl⟩
end
theorem walk_HoldKnown {W : World} : Calls Try.prog n_entrepotlaw21_HoldKnown #[] W (fun e w' => e = .returned (.bool true) ∧ Ext W w') := law_of (args := []) HoldKnown_S
end Go.Proofs.Ytgkhflcpbjlmiaa
/- Queues, part thirty-six: queues loaded. Conditions: not too many. -/
namespace Go.Proofs.Ytgkhflcpbjlmiaa
open Go.Eng Go.RowKit Go.WideMaps Go.Heap

def loadL (V : List Int) : List Wn → List Wn → Int × List Wn
  | L, [] => (0, L)
  | L, w :: l => if fitsB V.length w.e w.src = false ∨ hasL V w.e.r w.e.n = true then (2, L) else if (findW (dotW w) L).isSome = true then (19, L) else loadL V (insL (nW w) L) l
def loadE (n : Int) (V : List Int) (l : List Wn) : Int := if n < 1 ∨ 16 < n then 3 else if ¬ ((V.length : Int) = n ∧ numOk V) then 2 else if 64 < l.length then 10 else (loadL V [] l).1
theorem QI.startV {n : Nat} {V : List Int} (h1 : 1 ≤ n) (h2 : n ≤ 16) (h3 : V.length = n) (h4 : numOk V) : QI n V [] where
  n1 := h1
  n2 := h2
  len := h3
  num := h4
  nd := List.nodup_nil
  fit := fun w hw => by simp at hw
  new := fun w hw => by simp at hw
  ew := fun w hw => by simp at hw
  rf := fun w hw => by simp at hw
  many := by simp
  nrm := fun w hw => by simp at hw
  so := .nil
section
variable {b : World} {F : List SP} {gq gw : Nat} {V : List Int} {L l : List Wn} {va vl : Value}
set_option maxRecDepth 20000 in
set_option maxHeartbeats 4000000 in
theorem Load_S {n : Int} (ha : ∀ w, Sat b F w → VL (Value.int .i64) w va V) (hl : ∀ w, Sat b F w → WL w vl l) (hew : ∀ x ∈ l, EW x.e) (hd : ∀ x ∈ l, x.e.deps.length ≤ 1000000 ∧ x.e.refs.length ≤ 1000000) (hV : V.length ≤ 1000000) :
    SC Try.prog n_hold_Load [.int .i64 n, va, vl] b F (fun u F' => (loadE n V l ≠ 0 ∧ u = .tuple ⟨[.pointer none, .int .i64 (loadE n V l)]⟩ ∧ F' = F) ∨
      ∃ gq m, n = ((m : Nat) : Int) ∧ loadE n V l = 0 ∧ u = .tuple ⟨[.pointer (some ⟨gq, 0, none⟩), .int .i64 0]⟩ ∧ F' = que gq m V (loadL V [] l).2 :: F) := by
  refine enterS F_hold_Load rfl rfl rfl ?_
  refine sw_fact (fun w H => (ha w H).form) ?_
  rintro ⟨Av, cv, rfl, _, _, _, _⟩
  refine sw_fact (fun w H => sl_form (hl w H).sl) ?_
  rintro ⟨A0, c0, rfl, _, _, _, k4, _⟩
  (refine sw_seq ?_; refine sw_region ?_; (iterate 2 refine so_1 rfl ?_); refine so_nil ?_; refine sn_then ?_; refine sw_seq ?_; refine sw_region ?_; refine so_1 rfl ?_)
  by_cases hn : n < 1 ∨ 16 < n
  · have hE : loadE n V l = 3 := if_pos hn
    refine so_callE rfl rfl rfl ((New_bad hn)) ?_
    ((iterate 5 refine so_1 rfl ?_); refine so_nil ?_; refine sn_then ?_; refine sw_seq ?_; refine sw_block ?_; refine sw_seq ?_; refine sw_region ?_; (iterate 3 refine so_1 rfl ?_); refine so_nil ?_; refine sn_then ?_; refine sw_cond_t rfl ?_; refine sw_seq ?_; refine sw_region ?_; (iterate 3 refine so_1 rfl ?_); refine so_nil ?_; refine sn_then ?_; refine sw_ret ?_; refine sn_block_ret ?_; refine sn_then_ret ?_)
    refine sn_ret rfl (.tmp rfl (.tmp rfl .nil)) (Ent.refl _) ?_
    exact .inl ⟨by rw [hE]; decide, by rw [hE]; rfl, rfl⟩
  obtain ⟨m, rfl⟩ : ∃ m : Nat, n = (m : Int) := ⟨n.toNat, by omega⟩
  refine so_call rfl rfl rfl (New_H (n := m) (by omega) (by omega)) ?_
  rintro _ _ ⟨gq, gm, v0, rfl, rfl⟩
  ((iterate 5 refine so_1 rfl ?_); refine so_nil ?_; refine sn_then ?_; refine sw_seq ?_; refine sw_block ?_; refine sw_seq ?_; refine sw_region ?_; (iterate 3 refine so_1 rfl ?_); refine so_nil ?_; refine sn_then ?_; refine sw_cond_f rfl ?_; refine sw_seq ?_; refine sw_region ?_; (iterate 2 refine so_1 rfl ?_))
  refine so_callE rfl rfl rfl (numbers_S (n := m) (up ha (ent_keep 5 [] rfl rfl)) hV) ?_
  by_cases hnum : (V.length : Int) = (m : Int) ∧ numOk V
  rotate_left
  · have hE : loadE m V l = 2 := by rw [loadE, if_neg hn, if_pos hnum]
    refine so_know 26 (.bool false) rfl (congrArg Value.bool (by
      by_cases hq : V.length = m
      · have : ¬ numOk V := fun hc => hnum ⟨by omega, hc⟩
        simp [this]
      · simp [hq])) ?_
    ((iterate 2 refine so_1 rfl ?_); refine so_nil ?_; refine sn_then ?_; refine sw_cond_t rfl ?_; refine sw_seq ?_; refine sw_region ?_; (iterate 2 refine so_1 rfl ?_); refine so_nil ?_; refine sn_then ?_; refine sw_ret ?_; refine sn_block_ret ?_; refine sn_then_ret ?_)
    refine sn_ret rfl (.tmp rfl (.tmp rfl .nil)) (ent_keep 5 [] rfl rfl) ?_
    exact .inl ⟨by rw [hE]; decide, by rw [hE]; rfl, rfl⟩
  obtain ⟨hVm, hVn⟩ := hnum
  have hVm' : V.length = m := by omega
  refine so_know 26 (.bool true) rfl (congrArg Value.bool (by simp [hVm', hVn])) ?_
  ((iterate 2 refine so_1 rfl ?_); refine so_nil ?_; refine sn_then ?_; refine sw_cond_f rfl ?_; refine sw_seq ?_; refine sw_region ?_; (iterate 4 refine so_1 rfl ?_); refine so_nil ?_; refine sn_then ?_)
  by_cases h64 : 64 < l.length
  · have hE : loadE m V l = 10 := by rw [loadE, if_neg hn, if_neg (by simp [hVm', hVn]), if_pos h64]
    refine sw_know 28 (.bool true) rfl (congrArg Value.bool (decide_eq_true (by omega))) ?_
    (refine sw_cond_t rfl ?_; refine sw_seq ?_; refine sw_region ?_; (iterate 2 refine so_1 rfl ?_); refine so_nil ?_; refine sn_then ?_; refine sw_ret ?_; refine sn_block_ret ?_; refine sn_then_ret ?_)
    refine sn_ret rfl (.tmp rfl (.tmp rfl .nil)) (ent_keep 5 [] rfl rfl) ?_
    exact .inl ⟨by rw [hE]; decide, by rw [hE]; rfl, rfl⟩
  have hE : loadE m V l = (loadL V [] l).1 := by rw [loadE, if_neg hn, if_neg (by simp [hVm', hVn]), if_neg h64]
  refine sw_know 28 (.bool false) rfl (congrArg Value.bool (decide_eq_false (by omega))) ?_
  (refine sw_cond_f rfl ?_; refine sw_skip ?_; refine sn_block ?_; refine sn_then ?_; refine sw_seq ?_; refine sw_region ?_; (iterate 2 refine so_1 rfl ?_))
  refine so_call rfl rfl rfl (Clone_ints (up ha (ent_keep 5 [] rfl rfl)) hV) ?_
  rintro v1 _ rfl
  refine so_fact (fun w H => (H.oat (k := 0) rfl).form) ?_
  rintro ⟨A1, c1, rfl, _, _, _⟩
  ((iterate 2 refine so_1 rfl ?_); refine so_s1 1 rfl rfl rfl rfl ?_; refine so_nil ?_; refine sn_then ?_; (iterate 2 refine sw_seq ?_); refine sw_region ?_; (iterate 3 refine so_1 rfl ?_); refine so_nil ?_; refine sn_then ?_; refine sw_block ?_)
  refine sw_loop (S := Nat × Value × List Wn × List Wn × List Wn) (fun s => [(1, .slice Av V.length cv), (8, .pointer (some ⟨gq, 0, none⟩)), (37, .slice A0 l.length c0), (38, .int .i64 l.length), (39, .int .i64 (s.1 : Int))])
    (fun s => stH gq gm (.slice A1 V.length c1) V s.2.1 s.2.2.1 s.2.2.2.1 F) (fun s => s.1 ≤ l.length ∧ s.2.2.2.2.length ≤ s.1 ∧ QI m V s.2.2.2.2 ∧ HI s.2.2.2.2 s.2.2.1 s.2.2.2.1 ∧ loadL V [] l = loadL V s.2.2.2.2 (l.drop s.1)) (fun s => l.length - s.1) (0, .slice none 0 0, [], [], []) ⟨rfl, rfl, rfl, rfl, rfl, trivial⟩ (ent_keep 6 [1, 0, 3, 4, 5] rfl rfl) ⟨Nat.zero_le _, Nat.le_refl _, QI.startV (by omega) (by omega) hVm' hVn, ⟨.refl _, fun i _ h => by simp at h, .refl _⟩, rfl⟩ ?_
  rintro ⟨i, h, R, H, L⟩ ⟨i1, i2, hq, hi, hlo⟩
  dsimp only at i1 i2 hq hi hlo ⊢
  have hRl := hi.len
  (refine sw_seq ?_; refine sw_region ?_; refine so_1 rfl ?_; refine so_nil ?_; refine sn_then ?_; refine sw_seq ?_)
  refine sw_if rfl (fun h1 => ?_) (fun h1 => ?_)
  · have h1' : i < l.length := by omega
    obtain ⟨bk, off, rfl⟩ := k4 (by omega)
    have hmem := List.getElem_mem h1'
    have hc : ∀ w, Sat b F w → ∀ j, j < 40 → w.cell? ⟨bk, off + i * 40 + j, none⟩ = (waC l[i])[j]? := fun w H j hj => wa_cell (hl w H) (fun x hx => (hew x hx).l32) h1' hj
    have hxr : ∀ w, Sat b F w → ER w l[i].e := fun w H => (hl w H).er _ hmem
    have hxe := hew _ hmem
    obtain ⟨hxd, hxl⟩ := hd _ hmem
    have hdr : l.drop i = l[i] :: l.drop (i + 1) := List.drop_eq_getElem_cons h1'
    rw [hdr] at hlo
    generalize l[i] = x at *
    have hx32 := hxe.l32
    (refine sw_skip ?_; refine sn_then ?_; refine sw_seq ?_; refine sw_block ?_; refine sw_seq ?_; refine sw_region ?_; refine so_2 rfl (by omega) ?_)
    refine so_rd rfl (fun w H => ex_loadN (cs := waC x) rfl rfl rfl (wsC_len hx32) (fun j hj => by rw [wsC_len hx32] at hj; rw [mulz_eq, idx_lt]; exact up hc (ent_keep 5 [] rfl rfl) w H j hj)) rfl ?_
    refine so_fact (fun w H => (up hxr (ent_keep 5 [] rfl rfl) w H).dv.form) ?_
    rintro ⟨A5, c5, hdv, _, _, _⟩
    refine so_fact (fun w H => sl_form (up hxr (ent_keep 5 [] rfl rfl) w H).rv) ?_
    rintro ⟨A6, c6, hrv, _, _, _⟩
    refine so_new rfl rfl rfl rfl rfl fun g11 => ?_
    refine so_stW 0 rfl rfl rfl rfl rfl rfl rfl (wsC_len hx32) (wsC_one (by rw [hdv]; rfl) (by rw [hrv]; rfl)) (by rw [wsC_len hx32]; rfl) ?_
    refine so_ent (ent_keep 6 [1, 2, 3, 4, 5, 0] rfl rfl) ?_
    (refine so_nil ?_; refine sn_then ?_; (iterate 2 refine sw_seq ?_); refine sw_region ?_; (iterate 2 refine so_1 rfl ?_))
    refine so_ldA 5 rfl rfl rfl rfl rfl rfl (wsC_ev hx32) rfl ?_
    (refine so_1 rfl ?_)
    refine so_ld 5 rfl rfl rfl rfl rfl rfl (wsC_src hx32) rfl ?_
    refine so_callE rfl rfl rfl (fits_S (e := x.e) (src := x.src) (up (fun w H => (hxr w H).dv) (ent_keep 6 [] rfl rfl)) hxd) ?_
    rw [loadL] at hlo
    cases hf : fitsB V.length x.e x.src with
    | false =>
      rw [if_pos (.inl hf)] at hlo
      have hE2 : loadE m V l = 2 := by rw [hE, hlo]
      ((iterate 8 refine so_1 rfl ?_); refine so_nil ?_; refine sn_then ?_; refine sw_cond_t rfl ?_; refine sw_seq ?_; refine sw_region ?_; (iterate 2 refine so_1 rfl ?_); refine so_nil ?_; refine sn_then ?_; refine sw_ret ?_; refine sn_then_ret ?_; refine sn_block_ret ?_; refine sn_then_ret ?_; refine sn_loop_ret ?_; refine sn_block_ret ?_; refine sn_then_ret ?_)
      refine sn_ret rfl (.tmp rfl (.tmp rfl .nil)) (ent_keep 6 [] rfl rfl) ?_
      exact .inl ⟨by rw [hE2]; decide, by rw [hE2]; rfl, rfl⟩
    | true =>
    ((iterate 5 refine so_1 rfl ?_); refine so_l 5 rfl rfl rfl ?_)
    refine so_callE rfl rfl rfl (SC.ofExt fun w H => Has_spec_vector_Has (up ha (ent_keep 6 [] rfl rfl) w H)) ?_
    cases hh : hasL V x.e.r x.e.n with
    | true =>
      rw [if_pos (.inr hh)] at hlo
      have hE2 : loadE m V l = 2 := by rw [hE, hlo]
      (refine so_1 rfl ?_; refine so_nil ?_; refine sn_then ?_; refine sw_cond_t rfl ?_; refine sw_seq ?_; refine sw_region ?_; (iterate 2 refine so_1 rfl ?_); refine so_nil ?_; refine sn_then ?_; refine sw_ret ?_; refine sn_then_ret ?_; refine sn_block_ret ?_; refine sn_then_ret ?_; refine sn_loop_ret ?_; refine sn_block_ret ?_; refine sn_then_ret ?_)
      refine sn_ret rfl (.tmp rfl (.tmp rfl .nil)) (ent_keep 6 [] rfl rfl) ?_
      exact .inl ⟨by rw [hE2]; decide, by rw [hE2]; rfl, rfl⟩
    | false =>
    rw [if_neg (by simp [hf, hh])] at hlo
    (refine so_1 rfl ?_; refine so_nil ?_; refine sn_then ?_; refine sw_cond_f rfl ?_; refine sw_skip ?_; refine sn_then ?_; (iterate 2 refine sw_seq ?_))
    refine sw_draw flo _ (by decide +kernel) (Ent.refl _) ?_
    ((iterate 3 refine sd_1 rfl (.inl rfl) ?_); refine sd_l 0 rfl rfl rfl rfl ?_; (iterate 2 refine sd_1 rfl (.inl rfl) ?_); refine sd_l 5 rfl rfl rfl rfl ?_)
    cases hfw : findW (dotW x) L with
    | some y =>
      rw [hfw, if_pos (show (some y).isSome = true from rfl)] at hlo
      have hE2 : loadE m V l = 19 := by rw [hE, hlo]
      obtain ⟨w, hw, hwd, hwx, hwg⟩ := hi.hit hq hfw
      refine sd_look1 3 dotMK hxe.dot hwg rfl rfl rfl rfl rfl rfl rfl rfl rfl ?_
      ((iterate 5 refine sd_1 rfl (.inl rfl) ?_))
      refine sd_nil ?_
      (refine sn_then ?_; refine sw_seq ?_; refine sw_region ?_; refine so_1 rfl ?_; refine so_nil ?_; refine sn_then ?_; refine sw_cond_t rfl ?_; refine sw_seq ?_; refine sw_region ?_; (iterate 2 refine so_1 rfl ?_); refine so_nil ?_; refine sn_then ?_; refine sw_ret ?_; refine sn_then_ret ?_; refine sn_block_ret ?_; refine sn_then_ret ?_; refine sn_loop_ret ?_; refine sn_block_ret ?_; refine sn_then_ret ?_)
      refine sn_ret rfl (.tmp rfl (.tmp rfl .nil)) (ent_keep 6 [] rfl rfl) ?_
      exact .inl ⟨by rw [hE2]; decide, by rw [hE2]; rfl, rfl⟩
    | none =>
      rw [hfw, if_neg (by simp)] at hlo
      refine sd_look0 3 dotMK hxe.dot (hi.miss hfw) rfl rfl rfl rfl rfl rfl rfl rfl rfl ?_
      ((iterate 5 refine sd_1 rfl (.inl rfl) ?_))
      refine sd_nil ?_
      (refine sn_then ?_; refine sw_seq ?_; refine sw_region ?_; refine so_1 rfl ?_; refine so_nil ?_; refine sn_then ?_; refine sw_cond_f rfl ?_; refine sw_skip ?_; refine sn_then ?_; refine sw_region ?_; refine so_1 rfl ?_)
      refine so_ldA 5 rfl rfl rfl rfl rfl rfl (segO_all (by rw [wsC_len hx32]; rfl)) rfl ?_
      have hfm : fitsB m x.e x.src = true := by rw [← hVm']; exact hf
      refine so_call rfl rfl rfl (hold_S (b := b) (F := pt g11 t_api_Waiting (wsC x.e x.src) :: F) (gq := gq) (gm := gm) (v := .slice A1 V.length c1) (V := V) (h := h) (R := R) (H := H) (e := x.e) (s := x.src) (hi.h32 hq) hi.sub (by omega) hx32 hxe.dot (hi.miss hfw) (up (fun w H => (hxr w H).dv) (ent_keep 1 [] rfl rfl)) (up (fun w H => (hxr w H).rv) (ent_keep 1 [] rfl rfl)) hxd hxl) ?_
      rintro _ _ ⟨g, dv, rv, h', rfl⟩
      (refine so_nil ?_; refine sn_block ?_; refine sn_then ?_; refine sw_region ?_; refine so_2 rfl (by (unfold I64; omega)) ?_; refine so_1 rfl ?_; refine so_nil ?_)
      refine sn_round (i + 1, h', upG (R.length + 1) (R ++ [(⟨g, x.e.own dv rv, x.src⟩ : Wn)]) R.length, H ++ [(⟨g, x.e.own dv rv, x.src⟩ : Wn)], insL (nW x) L) ⟨rfl, rfl, rfl, rfl, rfl, trivial⟩ (ent_keep 6 [0, 1, 2, 3, 4] rfl rfl) ⟨h1', ?_, ?_, ?_, hlo⟩ (by dsimp only; omega)
      · dsimp only; rw [(insL_perm _ _).length_eq, List.length_cons]; omega
      · exact hq.ins (e := x.e) (s := x.src) hfm hh hfw hxe hxl (by omega)
      · have hup : (upG (R.length + 1) (R ++ [(⟨g, x.e.own dv rv, x.src⟩ : Wn)]) R.length).Perm (R ++ [⟨g, x.e.own dv rv, x.src⟩]) := upG_perm _ _ _ (by simp)
        refine ⟨hup.trans (hi.perm.append_right _), ?_, ?_⟩
        · dsimp only; rw [upG_len, List.length_append, List.length_singleton]; exact push_hpG hi.hp
        · dsimp only; rw [List.map_append]
          refine (insL_perm _ _).trans ?_
          exact (List.Perm.cons _ hi.pm).trans (List.perm_append_comm (l₁ := [nW x]))
  · have hiz : i = l.length := by omega
    rw [hiz, List.drop_length] at hlo
    have hE2 : loadE m V l = 0 := by rw [hE, hlo]; rfl
    have hL2 : (loadL V [] l).2 = L := by rw [hlo]; rfl
    (refine sw_exit ?_; refine sn_then_exit ?_; refine sn_loop_exit ?_; refine sn_block_exit ?_; refine sn_then ?_; refine sw_seq ?_; refine sw_region ?_; (iterate 3 refine so_1 rfl ?_); refine so_nil ?_; refine sn_then ?_; refine sw_ret ?_)
    refine sn_ret rfl (.tmp rfl (.tmp rfl .nil)) (ent_pack (p := fun s : Nat × Value × Value × List Wn × List Wn => QI m V L ∧ HI L s.2.2.2.1 s.2.2.2.2) (G := fun s : Nat × Value × Value × List Wn × List Wn => stH gq s.1 s.2.1 V s.2.2.1 s.2.2.2.1 s.2.2.2.2 []) (gm, .slice A1 V.length c1, h, R, H) ⟨hq, hi⟩) ?_
    exact .inr ⟨gq, m, rfl, hE2, rfl, by rw [hL2]; rfl⟩
set_option maxRecDepth 20000 in
set_option maxHeartbeats 4000000 in
theorem rLoad_S {n : Int} (ha : ∀ w, Sat b F w → VL (Value.int .i64) w va V) (hl : ∀ w, Sat b F w → WL w vl l) (hew : ∀ x ∈ l, EW x.e) (hd : ∀ x ∈ l, x.e.deps.length ≤ 1000000 ∧ x.e.refs.length ≤ 1000000) (hV : V.length ≤ 1000000) :
    SC Try.prog n_entrepotref21_Load [.int .i64 n, va, vl] b F (fun u F' => (loadE n V l ≠ 0 ∧ u = .tuple ⟨[.pointer none, .int .i64 (loadE n V l)]⟩ ∧ F' = F) ∨
      ∃ gw m, n = ((m : Nat) : Int) ∧ loadE n V l = 0 ∧ u = .tuple ⟨[.pointer (some ⟨gw, 0, none⟩), .int .i64 0]⟩ ∧ F' = rqu gw m V (loadL V [] l).2 :: F) := by
  refine enterS F_entrepotref21_Load rfl rfl rfl ?_
  refine sw_fact (fun w H => (ha w H).form) ?_
  rintro ⟨Av, cv, rfl, _, _, _, _⟩
  refine sw_fact (fun w H => sl_form (hl w H).sl) ?_
  rintro ⟨A0, c0, rfl, _, _, _, k4, _⟩
  (refine sw_seq ?_; refine sw_region ?_; (iterate 2 refine so_1 rfl ?_); refine so_nil ?_; refine sn_then ?_; refine sw_seq ?_; refine sw_region ?_; refine so_1 rfl ?_)
  by_cases hn : n < 1 ∨ 16 < n
  · have hE : loadE n V l = 3 := if_pos hn
    refine so_callE rfl rfl rfl ((rNew_bad hn)) ?_
    ((iterate 5 refine so_1 rfl ?_); refine so_nil ?_; refine sn_then ?_; refine sw_seq ?_; refine sw_block ?_; refine sw_seq ?_; refine sw_region ?_; (iterate 3 refine so_1 rfl ?_); refine so_nil ?_; refine sn_then ?_; refine sw_cond_t rfl ?_; refine sw_seq ?_; refine sw_region ?_; (iterate 3 refine so_1 rfl ?_); refine so_nil ?_; refine sn_then ?_; refine sw_ret ?_; refine sn_block_ret ?_; refine sn_then_ret ?_)
    refine sn_ret rfl (.tmp rfl (.tmp rfl .nil)) (Ent.refl _) ?_
    exact .inl ⟨by rw [hE]; decide, by rw [hE]; rfl, rfl⟩
  obtain ⟨m, rfl⟩ : ∃ m : Nat, n = (m : Int) := ⟨n.toNat, by omega⟩
  refine so_call rfl rfl rfl (rNew_Q (n := m) (by omega) (by omega)) ?_
  rintro _ _ ⟨gw, rfl, rfl⟩
  refine so_opn ?_
  rintro ⟨v0, l0, M0⟩ ⟨_, hM0⟩
  obtain rfl : M0 = [] := by simpa using hM0
  refine so_ent (G := stW gw v0 l0 (List.replicate m 0) [] F) (Ent.refl _) ?_
  ((iterate 5 refine so_1 rfl ?_); refine so_nil ?_; refine sn_then ?_; refine sw_seq ?_; refine sw_block ?_; refine sw_seq ?_; refine sw_region ?_; (iterate 3 refine so_1 rfl ?_); refine so_nil ?_; refine sn_then ?_; refine sw_cond_f rfl ?_; refine sw_seq ?_; refine sw_region ?_; (iterate 2 refine so_1 rfl ?_))
  refine so_callE rfl rfl rfl (vector_S (n := m) (up ha (ent_keep 4 [] rfl rfl)) (by omega)) ?_
  by_cases hnum : (V.length : Int) = (m : Int) ∧ numOk V
  rotate_left
  · have hE : loadE m V l = 2 := by rw [loadE, if_neg hn, if_pos hnum]
    refine so_know 25 (.bool false) rfl (congrArg Value.bool (by
      by_cases hq : V.length = m
      · have : ¬ numOk V := fun hc => hnum ⟨by omega, hc⟩
        simp [this]
      · simp [hq])) ?_
    ((iterate 2 refine so_1 rfl ?_); refine so_nil ?_; refine sn_then ?_; refine sw_cond_t rfl ?_; refine sw_seq ?_; refine sw_region ?_; (iterate 2 refine so_1 rfl ?_); refine so_nil ?_; refine sn_then ?_; refine sw_ret ?_; refine sn_block_ret ?_; refine sn_then_ret ?_)
    refine sn_ret rfl (.tmp rfl (.tmp rfl .nil)) (ent_keep 4 [] rfl rfl) ?_
    exact .inl ⟨by rw [hE]; decide, by rw [hE]; rfl, rfl⟩
  obtain ⟨hVm, hVn⟩ := hnum
  have hVm' : V.length = m := by omega
  refine so_know 25 (.bool true) rfl (congrArg Value.bool (by simp [hVm', hVn])) ?_
  ((iterate 2 refine so_1 rfl ?_); refine so_nil ?_; refine sn_then ?_; refine sw_cond_f rfl ?_; refine sw_seq ?_; refine sw_region ?_; (iterate 4 refine so_1 rfl ?_); refine so_nil ?_; refine sn_then ?_)
  by_cases h64 : 64 < l.length
  · have hE : loadE m V l = 10 := by rw [loadE, if_neg hn, if_neg (by simp [hVm', hVn]), if_pos h64]
    refine sw_know 27 (.bool true) rfl (congrArg Value.bool (decide_eq_true (by omega))) ?_
    (refine sw_cond_t rfl ?_; refine sw_seq ?_; refine sw_region ?_; (iterate 2 refine so_1 rfl ?_); refine so_nil ?_; refine sn_then ?_; refine sw_ret ?_; refine sn_block_ret ?_; refine sn_then_ret ?_)
    refine sn_ret rfl (.tmp rfl (.tmp rfl .nil)) (ent_keep 4 [] rfl rfl) ?_
    exact .inl ⟨by rw [hE]; decide, by rw [hE]; rfl, rfl⟩
  have hE : loadE m V l = (loadL V [] l).1 := by rw [loadE, if_neg hn, if_neg (by simp [hVm', hVn]), if_neg h64]
  refine sw_know 27 (.bool false) rfl (congrArg Value.bool (decide_eq_false (by omega))) ?_
  (refine sw_cond_f rfl ?_; refine sw_skip ?_; refine sn_block ?_; refine sn_then ?_; refine sw_seq ?_; refine sw_region ?_; refine so_1 rfl ?_)
  refine so_lit [] rfl rfl rfl rfl rfl rfl rfl rfl rfl fun g32 => ?_
  refine so_ent (ent_blk_row (n := 0) (sz := 1) rfl rfl (by decide) 0 rfl rfl) ?_
  (refine so_1 rfl ?_)
  refine so_append 0 rfl rfl rfl rfl rfl rfl rfl rfl rfl (up ha (ent_keep 5 [] rfl rfl)) ints_one (by omega) (fun _ => rfl) fun v34 => ?_
  rw [Nat.zero_add V.length, List.nil_append]
  refine so_fact (fun w H => (H.oat (k := 0) rfl).form) ?_
  rintro ⟨A1, c1, rfl, _, _, _⟩
  ((iterate 2 refine so_1 rfl ?_); refine so_s1 1 rfl rfl rfl rfl ?_; refine so_nil ?_; refine sn_then ?_; (iterate 2 refine sw_seq ?_); refine sw_region ?_; refine so_1 rfl ?_; refine so_nil ?_; refine sn_then ?_; refine sw_block ?_)
  refine sw_loop (S := Nat × Value × List Wn) (fun s => [(0, .int .i64 m), (1, .slice Av V.length cv), (2, .slice A0 l.length c0), (8, .pointer (some ⟨gw, 0, none⟩)), (10, .int .i64 (s.1 : Int))])
    (fun s => stW gw (.slice A1 V.length c1) s.2.1 V s.2.2 F) (fun s => s.1 ≤ l.length ∧ s.2.2.length ≤ s.1 ∧ QI m V (s.2.2.map nW) ∧ loadL V [] l = loadL V (s.2.2.map nW) (l.drop s.1)) (fun s => l.length - s.1) (0, l0, []) ⟨rfl, rfl, rfl, rfl, rfl, trivial⟩ (ent_keep 5 [1, 0, 3, 4] rfl rfl) ⟨Nat.zero_le _, Nat.le_refl _, QI.startV (by omega) (by omega) hVm' hVn, rfl⟩ ?_
  rintro ⟨i, lv, M⟩ ⟨i1, i2, hq, hlo⟩
  dsimp only at i1 i2 hq hlo ⊢
  have hlM : (M.map nW).length = M.length := List.length_map _
  ((iterate 2 refine sw_seq ?_); refine sw_region ?_; (iterate 4 refine so_1 rfl ?_); refine so_nil ?_; refine sn_then ?_)
  refine sw_if rfl (fun h1 => ?_) (fun h1 => ?_)
  · have h1' : i < l.length := by omega
    obtain ⟨bk, off, rfl⟩ := k4 (by omega)
    have hmem := List.getElem_mem h1'
    have hc : ∀ w, Sat b F w → ∀ j, j < 40 → w.cell? ⟨bk, off + i * 40 + j, none⟩ = (waC l[i])[j]? := fun w H j hj => wa_cell (hl w H) (fun x hx => (hew x hx).l32) h1' hj
    have hxr : ∀ w, Sat b F w → ER w l[i].e := fun w H => (hl w H).er _ hmem
    have hxe := hew _ hmem
    obtain ⟨hxd, hxl⟩ := hd _ hmem
    have hdr : l.drop i = l[i] :: l.drop (i + 1) := List.drop_eq_getElem_cons h1'
    rw [hdr] at hlo
    generalize l[i] = x at *
    have hx32 := hxe.l32
    (refine sw_skip ?_; refine sn_then ?_; refine sw_seq ?_; refine sw_block ?_; refine sw_seq ?_; refine sw_region ?_; (iterate 3 refine so_1 rfl ?_); refine so_2 rfl (by omega) ?_; (iterate 2 refine so_1 rfl ?_))
    refine so_rd rfl (fun w H => ex_loadN (cs := [.int .i64 x.e.r, .int .i64 x.e.n]) rfl rfl rfl rfl (fun j hj => by
      rw [mulz_eq, idx_lt]
      rcases j with _ | _ | j
      · exact (up hc (ent_keep 4 [] rfl rfl) w H 0 (by omega)).trans rfl
      · exact (up hc (ent_keep 4 [] rfl rfl) w H 1 (by omega)).trans rfl
      · simp only [List.length_cons, List.length_nil] at hj; omega)) rfl ?_
    refine so_call rfl rfl rfl (rHolds_U (gw := gw) (d := dotW x) (v := .slice A1 V.length c1) (l := lv) (M := M) hq) ?_
    rintro _ _ ⟨y, s, is, hy, rfl, rfl⟩
    have hy32 := hy.ew.l32
    have his : is = (findW (dotW x) (M.map nW)).isSome := by
      have := hy.eq
      rw [holdsW] at this
      cases hf : findW (dotW x) (M.map nW) with
      | none => rw [hf] at this; exact (Prod.mk.inj (Prod.mk.inj this).2).2
      | some z => rw [hf] at this; exact (Prod.mk.inj (Prod.mk.inj this).2).2
    refine so_fact (rows_one (e := y) (i := 0) (j := 1) rfl rfl) fun hone => ?_
    ((iterate 3 refine so_1 rfl ?_))
    refine so_new rfl rfl rfl rfl rfl fun g11 => ?_
    refine so_stW 0 rfl rfl rfl rfl rfl rfl rfl (wsC_len hy32) (wsC_one hone.1 hone.2) (by rw [wsC_len hy32]; rfl) ?_
    (refine so_1 rfl ?_; refine so_nil ?_; refine sn_then ?_; refine sw_seq ?_; refine sw_block ?_; refine sw_seq ?_)
    refine sw_ent (G := stW gw (.slice A1 V.length c1) lv V M F) (ent_keep 7 [3, 4, 5, 6] rfl rfl) ?_
    refine sw_draw flo _ (by decide +kernel) (Ent.refl _) ?_
    ((iterate 2 refine sd_1 rfl (.inl rfl) ?_); refine sd_2 rfl rfl (by omega) ?_; refine sd_1 rfl (.inl rfl) ?_)
    refine sd_rd rfl (fun w H => ex_loadN (cs := evC x.e) rfl rfl rfl (evC_len hx32) (fun j hj => by rw [evC_len hx32] at hj; rw [mulz_eq, idx_lt]; exact (up hc (ent_keep 4 [] rfl rfl) w H j (by omega)).trans (wa_ev hx32 hj))) rfl rfl ?_
    ((iterate 2 refine sd_1 rfl (.inl rfl) ?_); refine sd_2 rfl rfl (by omega) ?_; refine sd_1 rfl (.inl rfl) ?_)
    refine sd_rd rfl (fun w H => ex_load rfl rfl rfl (by rw [mulz_eq, idx_lt]; exact (up hc (ent_keep 4 [] rfl rfl) w H 39 (by omega)).trans (wa_src hx32))) rfl rfl ?_
    (refine sd_1 rfl (.inl rfl) ?_)
    refine sd_callE rfl rfl rfl rfl (rfits_S (n := m) (up (fun w H => (hxr w H).dv) (ent_keep 4 [] rfl rfl)) (by omega)) (Ent.refl _) ?_
    rw [loadL] at hlo
    have hfm : fitsB m x.e x.src = fitsB V.length x.e x.src := by rw [hVm']
    rw [hfm]
    cases hf : fitsB V.length x.e x.src with
    | false =>
      rw [if_pos (.inl hf)] at hlo
      have hE2 : loadE m V l = 2 := by rw [hE, hlo]
      ((iterate 9 refine sd_1 rfl (.inl rfl) ?_); refine sd_1 rfl (.inr rfl) ?_; (iterate 2 refine sd_1 rfl (.inl rfl) ?_))
      refine sd_nil ?_
      (refine sn_then ?_; refine sw_cond_t rfl ?_; refine sw_seq ?_; refine sw_region ?_; (iterate 2 refine so_1 rfl ?_); refine so_nil ?_; refine sn_then ?_; refine sw_ret ?_; refine sn_block_ret ?_; refine sn_then_ret ?_; refine sn_block_ret ?_; refine sn_then_ret ?_; refine sn_loop_ret ?_; refine sn_block_ret ?_; refine sn_then_ret ?_)
      refine sn_ret rfl (.tmp rfl (.tmp rfl .nil)) (ent_keep 4 [] rfl rfl) ?_
      exact .inl ⟨by rw [hE2]; decide, by rw [hE2]; rfl, rfl⟩
    | true =>
    ((iterate 5 refine sd_1 rfl (.inl rfl) ?_); refine sd_2 rfl rfl (by omega) ?_; (iterate 2 refine sd_1 rfl (.inl rfl) ?_))
    refine sd_rd rfl (fun w H => ex_loadN (cs := [.int .i64 x.e.r, .int .i64 x.e.n]) rfl rfl rfl rfl (fun j hj => by
      rw [mulz_eq, idx_lt]
      rcases j with _ | _ | j
      · exact (up hc (ent_keep 4 [] rfl rfl) w H 0 (by omega)).trans rfl
      · exact (up hc (ent_keep 4 [] rfl rfl) w H 1 (by omega)).trans rfl
      · simp only [List.length_cons, List.length_nil] at hj; omega)) rfl rfl ?_
    refine sd_callE rfl rfl rfl rfl (SC.ofExt fun w H => refHas_spec (up ha (ent_keep 4 [] rfl rfl) w H)) (Ent.refl _) ?_
    cases hh : hasL V x.e.r x.e.n with
    | true =>
      rw [if_pos (.inr hh)] at hlo
      have hE2 : loadE m V l = 2 := by rw [hE, hlo]
      ((iterate 2 refine sd_1 rfl (.inl rfl) ?_))
      refine sd_nil ?_
      (refine sn_then ?_; refine sw_cond_t rfl ?_; refine sw_seq ?_; refine sw_region ?_; (iterate 2 refine so_1 rfl ?_); refine so_nil ?_; refine sn_then ?_; refine sw_ret ?_; refine sn_block_ret ?_; refine sn_then_ret ?_; refine sn_block_ret ?_; refine sn_then_ret ?_; refine sn_loop_ret ?_; refine sn_block_ret ?_; refine sn_then_ret ?_)
      refine sn_ret rfl (.tmp rfl (.tmp rfl .nil)) (ent_keep 4 [] rfl rfl) ?_
      exact .inl ⟨by rw [hE2]; decide, by rw [hE2]; rfl, rfl⟩
    | false =>
    rw [if_neg (by simp [hf, hh])] at hlo
    ((iterate 2 refine sd_1 rfl (.inl rfl) ?_))
    refine sd_nil ?_
    cases hfw : findW (dotW x) (M.map nW) with
    | some z =>
      rw [hfw, if_pos (show (some z).isSome = true from rfl)] at hlo
      have hE2 : loadE m V l = 19 := by rw [hE, hlo]
      rw [hfw] at his
      subst his
      (refine sn_then ?_; refine sw_cond_f rfl ?_; refine sw_seq ?_; refine sw_region ?_; (iterate 2 refine so_1 rfl ?_); refine so_nil ?_; refine sn_then ?_; refine sw_cond_t rfl ?_; refine sw_seq ?_; refine sw_region ?_; (iterate 2 refine so_1 rfl ?_); refine so_nil ?_; refine sn_then ?_; refine sw_ret ?_; refine sn_block_ret ?_; refine sn_then_ret ?_; refine sn_block_ret ?_; refine sn_then_ret ?_; refine sn_loop_ret ?_; refine sn_block_ret ?_; refine sn_then_ret ?_)
      refine sn_ret rfl (.tmp rfl (.tmp rfl .nil)) (ent_keep 4 [] rfl rfl) ?_
      exact .inl ⟨by rw [hE2]; decide, by rw [hE2]; rfl, rfl⟩
    | none =>
      rw [hfw, if_neg (by simp)] at hlo
      rw [hfw] at his
      subst his
      (refine sn_then ?_; refine sw_cond_f rfl ?_; refine sw_seq ?_; refine sw_region ?_; (iterate 2 refine so_1 rfl ?_); refine so_nil ?_; refine sn_then ?_; refine sw_cond_f rfl ?_; refine sw_skip ?_; refine sn_block ?_; refine sn_then ?_; refine sw_region ?_; (iterate 3 refine so_1 rfl ?_); refine so_2 rfl (by omega) ?_)
      refine so_rd rfl (fun w H => ex_loadN (cs := waC x) rfl rfl rfl (wsC_len hx32) (fun j hj => by rw [wsC_len hx32] at hj; rw [mulz_eq, idx_lt]; exact up hc (ent_keep 4 [] rfl rfl) w H j hj)) rfl ?_
      refine so_call rfl rfl rfl (lay_S (gw := gw) (v := .slice A1 V.length c1) (l := lv) (e := x.e) (s := x.src) hq (by omega) hxr hx32 hxd hxl) ?_
      rintro _ _ ⟨l', M', rfl, hM'⟩
      (refine so_nil ?_; refine sn_block ?_; refine sn_then ?_; refine sw_region ?_; refine so_1 rfl ?_; refine so_2 rfl (by (unfold I64; omega)) ?_; refine so_1 rfl ?_; refine so_nil ?_)
      have hM'' : M'.map nW = insL (nW x) (M.map nW) := hM'
      have hlen : M'.length = M.length + 1 := by
        have := congrArg List.length hM''
        rw [List.length_map, (insL_perm _ _).length_eq, List.length_cons, List.length_map] at this; exact this
      refine sn_round (i + 1, l', M') ⟨rfl, rfl, rfl, rfl, rfl, trivial⟩ (Ent.refl _) ⟨h1', by dsimp only; omega, ?_, by dsimp only; rw [hM'']; exact hlo⟩ (by dsimp only; omega)
      dsimp only
      rw [hM'']
      exact hq.ins (e := x.e) (s := x.src) (by rw [hfm]; exact hf) hh hfw hxe hxl (by omega)
  · have hiz : i = l.length := by omega
    rw [hiz, List.drop_length] at hlo
    have hE2 : loadE m V l = 0 := by rw [hE, hlo]; rfl
    have hL2 : (loadL V [] l).2 = M.map nW := by rw [hlo]; rfl
    (refine sw_exit ?_; refine sn_then_exit ?_; refine sn_loop_exit ?_; refine sn_block_exit ?_; refine sn_then ?_; refine sw_seq ?_; refine sw_region ?_; (iterate 3 refine so_1 rfl ?_); refine so_nil ?_; refine sn_then ?_; refine sw_ret ?_)
    refine sn_ret rfl (.tmp rfl (.tmp rfl .nil)) (rpack hq rfl) ?_
    exact .inr ⟨gw, m, rfl, hE2, rfl, by rw [hL2]⟩
end
end Go.Proofs.Ytgkhflcpbjlmiaa
/- Queues, part thirty-seven: HoldLoads. Conditions: none. -/
namespace Go.Proofs.Ytgkhflcpbjlmiaa
open Go.Eng Go.RowKit Go.WideMaps Go.Heap

theorem loadL_nW (V : List Int) : ∀ (l L : List Wn), loadL V L (l.map nW) = loadL V L l
  | [], L => rfl
  | w :: l, L => by
    simp only [List.map_cons, loadL]
    rw [loadL_nW V l]
    rfl
theorem loadL_eq {V : List Int} {D l : List Wn} (h : D.map nW = l.map nW) : loadL V [] D = loadL V [] l := by
  rw [← loadL_nW V D, h, loadL_nW]
theorem loadE_eq {n : Int} {V : List Int} {D l : List Wn} (h : D.map nW = l.map nW) : loadE n V D = loadE n V l := by
  have hl : D.length = l.length := by have := congrArg List.length h; simpa using this
  rw [loadE, loadE, loadL_eq h, hl]
set_option maxRecDepth 20000 in
set_option maxHeartbeats 4000000 in
theorem walk_HoldLoads {W : World} {n : Int} {va vl vc : Value} {V : List Int} {l : List Wn} {acts : List Ac} (hV : VL (Value.int .i64) W va V) (hl : WAs W vl l) (hac : ALs W vc acts) :
    Calls Try.prog n_entrepotlaw21_HoldLoads #[.int .i64 n, va, vl, vc] W (fun e w' => e = .returned (.bool true) ∧ Ext W w') := by
  refine law_of (args := [.int .i64 n, va, vl, vc]) ?_
  have ra : ∀ {F : List SP} {k : Nat}, nth F k = some (Is W) → ∀ w, Sat W F w → VL (Value.int .i64) w va V := fun hk w H => hV.ext (H.is hk)
  have rl : ∀ {F : List SP} {k : Nat}, nth F k = some (Is W) → ∀ w, Sat W F w → WL w vl l := fun hk w H => hl.wl.ext (H.is hk)
  have rc : ∀ {F : List SP} {k : Nat}, nth F k = some (Is W) → ∀ w, Sat W F w → AL w vc acts := fun hk w H => hac.al.ext (H.is hk)
  obtain ⟨Av, cv, rfl, _, _, _, _⟩ := hV.form
  obtain ⟨Al, cl, rfl, _, _, _, _, _⟩ := sl_form hl.wl.sl
  obtain ⟨A0, c0, rfl, _, _, _, k4, _⟩ := sl_form hac.al.sl
  refine enterS F_entrepotlaw21_HoldLoads rfl rfl rfl ?_
  (refine sw_seq ?_; refine sw_region ?_; refine so_1 rfl ?_; refine so_nil ?_; refine sn_then ?_; (iterate 2 refine sw_seq ?_); refine sw_region ?_; (iterate 4 refine so_1 rfl ?_))
  by_cases h20 : 20 < V.length
  · refine so_know 19 (.bool true) rfl (congrArg Value.bool (decide_eq_true (by omega))) ?_
    ((iterate 7 refine so_1 rfl ?_); refine so_nil ?_; refine sn_then ?_; refine sw_cond_t rfl ?_; refine sw_seq ?_; refine sw_region ?_)
    refine so_callE rfl rfl rfl (awake_S) ?_
    (refine so_1 rfl ?_; refine so_nil ?_; refine sn_then ?_; refine sw_ret ?_; refine sn_then_ret ?_)
    refine sn_ret rfl (.tmp rfl .nil) (Ent.refl _) ?_
    exact ⟨rfl, rfl⟩
  refine so_know 19 (.bool false) rfl (congrArg Value.bool (decide_eq_false (by omega))) ?_
  (refine so_1 rfl ?_)
  refine so_call rfl rfl rfl (LongWaiting_S (l := l) (rl (k := 0) rfl) fun e he => (hl.ew e he).l32) ?_
  rintro _ _ ⟨q1, hq1, rfl, rfl⟩
  cases q1 with
  | true =>
    ((iterate 5 refine so_1 rfl ?_); refine so_nil ?_; refine sn_then ?_; refine sw_cond_t rfl ?_; refine sw_seq ?_; refine sw_region ?_)
    refine so_callE rfl rfl rfl (awake_S) ?_
    (refine so_1 rfl ?_; refine so_nil ?_; refine sn_then ?_; refine sw_ret ?_; refine sn_then_ret ?_)
    refine sn_ret rfl (.tmp rfl .nil) (Ent.refl _) ?_
    exact ⟨rfl, rfl⟩
  | false =>
  obtain ⟨hl70, hle⟩ := hq1 rfl
  ((iterate 3 refine so_1 rfl ?_))
  refine so_call rfl rfl rfl (Long_S (l := acts) (rc (k := 0) rfl) fun e he => (hac.ew e he).l32) ?_
  rintro _ _ ⟨q2, hq2, rfl, rfl⟩
  cases q2 with
  | true =>
    (refine so_1 rfl ?_; refine so_nil ?_; refine sn_then ?_; refine sw_cond_t rfl ?_; refine sw_seq ?_; refine sw_region ?_)
    refine so_callE rfl rfl rfl (awake_S) ?_
    (refine so_1 rfl ?_; refine so_nil ?_; refine sn_then ?_; refine sw_ret ?_; refine sn_then_ret ?_)
    refine sn_ret rfl (.tmp rfl .nil) (Ent.refl _) ?_
    exact ⟨rfl, rfl⟩
  | false =>
  obtain ⟨hc90, hce⟩ := hq2 rfl
  have hld : ∀ x ∈ l, x.e.deps.length ≤ 1000000 ∧ x.e.refs.length ≤ 1000000 := fun x hx => by
    obtain ⟨h1, h2, _⟩ := hle x hx
    exact ⟨by omega, by omega⟩
  (refine so_1 rfl ?_; refine so_nil ?_; refine sn_then ?_; refine sw_cond_f rfl ?_; refine sw_skip ?_; refine sn_then ?_; refine sw_seq ?_; refine sw_region ?_; refine so_1 rfl ?_)
  refine so_call rfl rfl rfl (CopyInts_S (ra (k := 0) rfl) (by omega)) ?_
  rintro v9 _ rfl
  (refine so_1 rfl ?_)
  refine so_call rfl rfl rfl (CopyWaiting_S (l := l) (rl (k := 1) rfl) (fun e he => (hl.ew e he).l32) hld (by omega)) ?_
  rintro v10 _ ⟨D, hD, rfl⟩
  have hDew : ∀ x ∈ D, EW x.e := fun x hx => by
    have h1 : nW x ∈ l.map nW := by rw [← hD]; exact List.mem_map.2 ⟨x, hx, rfl⟩
    obtain ⟨y, hy, hyx⟩ := List.mem_map.1 h1
    exact EW.of_nW hyx.symm ((hl.ew y hy).own nS nS)
  have hDd : ∀ x ∈ D, x.e.deps.length ≤ 1000000 ∧ x.e.refs.length ≤ 1000000 := fun x hx => by
    have h1 : nW x ∈ l.map nW := by rw [← hD]; exact List.mem_map.2 ⟨x, hx, rfl⟩
    obtain ⟨y, hy, hyx⟩ := List.mem_map.1 h1
    have h2 := hld y hy
    have h3 : (nW y).e.deps = (nW x).e.deps ∧ (nW y).e.refs = (nW x).e.refs := by rw [hyx]; exact ⟨rfl, rfl⟩
    have h4 : y.e.deps = x.e.deps := h3.1
    have h5 : y.e.refs = x.e.refs := h3.2
    rw [← h4, ← h5]; exact h2
  have hDl : D.length = l.length := by have := congrArg List.length hD; simpa using this
  have hL := loadL_eq (V := V) hD
  have hE := loadE_eq (n := n) (V := V) hD
  refine so_fact (fun w H => (H.oat (k := 0) rfl).form) ?_
  rintro ⟨A10, c10, rfl, _, _, _⟩
  refine so_fact (fun w H => (H.oat (k := 2) rfl).form) ?_
  rintro ⟨A9, c9, rfl, _, _, _⟩
  ((iterate 2 refine so_1 rfl ?_); refine so_nil ?_; refine sn_then ?_; refine sw_seq ?_; refine sw_region ?_; (iterate 3 refine so_1 rfl ?_))
  refine so_call rfl rfl rfl (Load_S (n := n) (V := V) (l := D) (vlZ (k := 2) rfl) (rWs_wl (k := 0) (j := 1) rfl rfl) hDew hDd (by omega)) ?_
  rw [hE, hL]
  rintro _ _ (⟨h0, rfl, rfl⟩ | ⟨gq, m, rfl, h0, rfl, rfl⟩)
  · ((iterate 5 refine so_1 rfl ?_); refine so_nil ?_; refine sn_then ?_; refine sw_seq ?_; refine sw_region ?_; (iterate 3 refine so_1 rfl ?_))
    refine so_call rfl rfl rfl (rLoad_S (n := n) (V := V) (l := l) (ra (k := 3) rfl) (rl (k := 3) rfl) hl.ew hld (by omega)) ?_
    rintro _ _ (⟨_, rfl, rfl⟩ | ⟨_, _, _, h1, _⟩)
    rotate_left
    · exact absurd h1 h0
    ((iterate 5 refine so_1 rfl ?_); refine so_nil ?_; refine sn_then ?_; (iterate 2 refine sw_seq ?_); refine sw_region ?_; (iterate 4 refine so_1 rfl ?_))
    refine so_know 49 (.bool false) rfl (congrArg Value.bool (by simp)) ?_
    ((iterate 9 refine so_1 rfl ?_))
    refine so_callE rfl rfl rfl (SameInts_S (xs := V) (ys := V) (vlZ (k := 2) rfl) (ra (k := 3) rfl)) ?_
    refine so_know 59 (.bool true) rfl (congrArg Value.bool (decide_eq_true rfl)) ?_
    ((iterate 5 refine so_1 rfl ?_))
    refine so_callE rfl rfl rfl (SameWaiting_S (l := D) (m := l) hD (rWs_wl (k := 0) (j := 1) rfl rfl) (rl (k := 3) rfl) (fun x hx => ⟨(hDew x hx).l32, (hDew x hx).r32, (hDd x hx).2⟩) (by omega)) ?_
    ((iterate 2 refine so_1 rfl ?_); refine so_nil ?_; refine sn_then ?_; refine sw_cond_f rfl ?_; refine sw_skip ?_; refine sn_then ?_; refine sw_seq ?_; refine sw_region ?_; refine so_1 rfl ?_)
    refine so_call rfl rfl rfl ((OverInts_D (v := .slice A9 V.length c9) (l := V) (by omega)).ent (ent_keep 3 [2, 0, 1] rfl rfl)) ?_
    rintro _ _ rfl
    (refine so_nil ?_; refine sn_then ?_; refine sw_seq ?_; refine sw_region ?_; refine so_1 rfl ?_)
    refine so_call rfl rfl rfl (OverWaiting_D (v := .slice A10 D.length c10) (l := D) (fun x hx => ⟨(hDew x hx).l32, (hDew x hx).r32⟩) hDd (by omega)) ?_
    rintro _ _ rfl
    (refine so_nil ?_; refine sn_then ?_; (iterate 2 refine sw_seq ?_); refine sw_region ?_; (iterate 2 refine so_1 rfl ?_); refine so_nil ?_; refine sn_then ?_; refine sw_cond_t rfl ?_; refine sw_seq ?_; refine sw_region ?_)
    refine so_callE rfl rfl rfl (awake_S) ?_
    (refine so_1 rfl ?_; refine so_nil ?_; refine sn_then ?_; refine sw_ret ?_; refine sn_then_ret ?_)
    refine sn_ret rfl (.tmp rfl .nil) (Ent.refl _) ?_
    exact ⟨rfl, rfl⟩
  · ((iterate 5 refine so_1 rfl ?_); refine so_nil ?_; refine sn_then ?_; refine sw_seq ?_; refine sw_region ?_; (iterate 3 refine so_1 rfl ?_))
    refine so_call rfl rfl rfl (rLoad_S (n := m) (V := V) (l := l) (ra (k := 4) rfl) (rl (k := 4) rfl) hl.ew hld (by omega)) ?_
    rintro _ _ (⟨h1, _⟩ | ⟨gw, m', hm', _, rfl, rfl⟩)
    · exact absurd h0 h1
    obtain rfl : m = m' := by omega
    ((iterate 5 refine so_1 rfl ?_); refine so_nil ?_; refine sn_then ?_; (iterate 2 refine sw_seq ?_); refine sw_region ?_; (iterate 13 refine so_1 rfl ?_))
    refine so_callE rfl rfl rfl (SameInts_S (xs := V) (ys := V) (vlZ (k := 4) rfl) (ra (k := 5) rfl)) ?_
    refine so_know 59 (.bool true) rfl (congrArg Value.bool (decide_eq_true rfl)) ?_
    ((iterate 5 refine so_1 rfl ?_))
    refine so_callE rfl rfl rfl (SameWaiting_S (l := D) (m := l) hD (rWs_wl (k := 2) (j := 3) rfl rfl) (rl (k := 5) rfl) (fun x hx => ⟨(hDew x hx).l32, (hDew x hx).r32, (hDd x hx).2⟩) (by omega)) ?_
    ((iterate 2 refine so_1 rfl ?_); refine so_nil ?_; refine sn_then ?_; refine sw_cond_f rfl ?_; refine sw_skip ?_; refine sn_then ?_; refine sw_seq ?_; refine sw_region ?_; refine so_1 rfl ?_)
    refine so_call rfl rfl rfl ((OverInts_D (v := .slice A9 V.length c9) (l := V) (by omega)).ent (ent_keep 5 [4, 0, 1, 2, 3] rfl rfl)) ?_
    rintro _ _ rfl
    (refine so_nil ?_; refine sn_then ?_; refine sw_seq ?_; refine sw_region ?_; refine so_1 rfl ?_)
    refine so_call rfl rfl rfl ((OverWaiting_D (v := .slice A10 D.length c10) (l := D) (fun x hx => ⟨(hDew x hx).l32, (hDew x hx).r32⟩) hDd (by omega)).ent (ent_keep 4 [2, 3, 1, 0] rfl rfl)) ?_
    rintro _ _ rfl
    (refine so_nil ?_; refine sn_then ?_; (iterate 2 refine sw_seq ?_); refine sw_region ?_; (iterate 2 refine so_1 rfl ?_); refine so_nil ?_; refine sn_then ?_; refine sw_cond_f rfl ?_; refine sw_skip ?_; refine sn_then ?_; (iterate 2 refine sw_seq ?_); refine sw_region ?_; refine so_1 rfl ?_; refine so_nil ?_; refine sn_then ?_; refine sw_block ?_)
    refine sw_loop (S := Nat × List Int × List Wn) (fun s => [(3, .slice A0 acts.length c0), (11, .pointer (some ⟨gq, 0, none⟩)), (13, .pointer (some ⟨gw, 0, none⟩)), (15, .int .i64 (s.1 : Int))]) (fun s => que gq m s.2.1 s.2.2 :: rqu gw m s.2.1 s.2.2 :: [Is W]) (fun s => s.1 ≤ acts.length) (fun s => acts.length - s.1) (0, V, (loadL V [] l).2) ⟨rfl, rfl, rfl, rfl, trivial⟩ (Ent.refl _) (Nat.zero_le _) ?_
    rintro ⟨i, V, L⟩ hi
    dsimp only at hi ⊢
    ((iterate 2 refine sw_seq ?_); refine sw_region ?_; (iterate 4 refine so_1 rfl ?_); refine so_nil ?_; refine sn_then ?_)
    refine sw_if rfl (fun h1 => ?_) (fun h1 => ?_)
    · have h1' : i < acts.length := by omega
      obtain ⟨bk, off, rfl⟩ := k4 (by omega)
      have hmem := List.getElem_mem h1'
      have hc : ∀ {F : List SP} {k : Nat}, nth F k = some (Is W) → ∀ w, Sat W F w → ∀ j, j < 41 → w.cell? ⟨bk, off + i * 41 + j, none⟩ = (acC acts[i])[j]? := fun hk w H j hj => fl_cell (rc hk w H).sl (fun a ha => acC_len (hac.ew a ha).l32) h1' hj
      have hxe := hac.ew _ hmem
      have hx64 := hac.n64 _ hmem
      have hxr : ∀ {F : List SP} {k : Nat}, nth F k = some (Is W) → ∀ w, Sat W F w → ER w acts[i].e := fun hk w H => (rc hk w H).er _ hmem
      obtain ⟨hx1, hx2, _, _⟩ := hce _ hmem
      generalize acts[i] = x at *
      (refine sw_skip ?_; refine sn_then ?_; refine sw_seq ?_; refine sw_block ?_; refine sw_seq ?_; refine sw_region ?_; (iterate 4 refine so_1 rfl ?_); refine so_2 rfl (by omega) ?_)
      refine so_rd rfl (fun w H => ex_loadN (cs := acC x) rfl rfl rfl (acC_len hxe.l32) (fun j hj => by rw [acC_len hxe.l32] at hj; rw [mulz_eq, idx_lt]; exact hc (k := 2) rfl w H j hj)) rfl ?_
      refine so_call rfl rfl rfl (acted_S (gq := gq) (gw := gw) (n := m) (V := V) (L := L) (hxr (k := 0) rfl) hxe hx64 (by omega) (by omega)) ?_
      rintro _ _ ⟨rfl, rfl⟩
      (refine so_1 rfl ?_; refine so_nil ?_; refine sn_then ?_; refine sw_cond_f rfl ?_; refine sw_skip ?_; refine sn_block ?_; refine sn_then ?_; refine sw_region ?_; refine so_1 rfl ?_; refine so_2 rfl (by (unfold I64; omega)) ?_; refine so_1 rfl ?_; refine so_nil ?_)
      refine sn_round (i + 1, (actSt V L x).1, (actSt V L x).2) ⟨rfl, rfl, rfl, rfl, trivial⟩ (Ent.refl _) ?_ ?_
      · show i + 1 ≤ acts.length
        omega
      · show acts.length - (i + 1) < acts.length - i
        omega
    · (refine sw_exit ?_; refine sn_then_exit ?_; refine sn_loop_exit ?_; refine sn_block_exit ?_; refine sn_then ?_; refine sw_seq ?_; refine sw_region ?_; (iterate 3 refine so_1 rfl ?_))
      refine so_call rfl rfl rfl (stands_S (gq := gq) (gw := gw) (n := m) (d := (1, 1)) ⟨by decide, by decide⟩) ?_
      rintro _ _ ⟨rfl, rfl⟩
      (refine so_1 rfl ?_)
      refine so_callE rfl rfl rfl (awake_S) ?_
      ((iterate 2 refine so_1 rfl ?_); refine so_nil ?_; refine sn_then ?_; refine sw_ret ?_)
      refine sn_ret rfl (.tmp rfl .nil) (ent_keep 2 [] rfl rfl) ?_
      exact ⟨rfl, rfl⟩
end Go.Proofs.Ytgkhflcpbjlmiaa
