/- Gates, part one: how a gate lies in memory; whether nobody made it. Conditions: none. -/
import Derived.Test.YtdmfcnjgdicncaaGreatP9
import Derived.Test.YtdmfcnjgdicncaaGreatP11
import Derived.Test.YtdmfcnjgdicncaaGreatP8
import Derived.Test.YtdmfcnjgdicncaaGreatP3
import Derived.Test.YtdmfcnjgdicncaaGreatP6
import Derived.Test.YtdmfcnjgdicncaaGreatP5
namespace Go.Proofs.YtdmfcnjgdicncaaGreat
open Go.Eng Go.RowKit Go.WideMaps Go.Heap

structure Pf where
 d : Int × Int
 ids : List (List Int)
 v : Value
def pM : List Pf → List ((Int × Int) × Value)
 | [] => []
 | e :: l => (e.d, .agg ⟨[e.v]⟩) :: pM l
def pF : List Pf → List SP
 | [] => []
 | e :: l => rD e.v e.ids :: pF l
abbrev CL := List ((Int × Int) × List (List Int))
def prf (l : List Pf) : CL := l.map fun e => (e.d, e.ids)
abbrev mpG (gp : Nat) (l : List Pf) : SP := mp gp dotP dotOk (pM l)
abbrev gtC (gq gs gp : Nat) : List Value := [.pointer (some ⟨gq, 0, none⟩), .pointer (some ⟨gs, 0, none⟩), .map (some gp)]
abbrev stG (gg gq gs gp : Nat) (l : List Pf) (F : List SP) : List SP := pt gg t_gate_Gate (gtC gq gs gp) :: mpG gp l :: all (pF l) :: F
def gat (gg gq gs : Nat) (C : CL) : SP := exP (S := Nat × List Pf) (fun s => prf s.2 = C) fun s => stG gg gq gs s.1 s.2 []
def cfm (d : Int × Int) : CL → List (List Int)
 | [] => []
 | e :: l => if e.1 = d then e.2 else cfm d l
def hasC (d : Int × Int) (C : CL) : Bool := C.any fun e => decide (e.1 = d)
def putC (d : Int × Int) (ids : List (List Int)) : CL → CL
 | [] => [(d, ids)]
 | e :: l => if e.1 = d then (d, ids) :: l else e :: putC d ids l
def delC (d : Int × Int) : CL → CL
 | [] => []
 | e :: l => if e.1 = d then l else e :: delC d l
section
variable {b : World} {F : List SP} {gg gq gs gp : Nat} {l : List Pf}
theorem none_G : SC Tryz.prog n_p_gate_Gate_none [.pointer (some ⟨gg, 0, none⟩)] b (stG gg gq gs gp l F) (fun v F' => v = .bool false ∧ F' = stG gg gq gs gp l F) := by
 refine enterS F_p_gate_Gate_none rfl rfl rfl ?_
 (refine sw_seq (sw_region ?_); refine so_1 rfl ?_; refine so_nil (sn_then ?_); refine sw_seq (sw_region ?_); (iterate 6 refine so_1 rfl ?_); refine so_l 0 rfl rfl rfl ?_; (iterate 3 refine so_1 rfl ?_); refine so_nil (sn_then ?_); refine sw_ret ?_)
 refine sn_ret rfl (.tmp rfl .nil) (ent_keep 0 [] rfl rfl) ?_
 exact ⟨rfl, rfl⟩
end
theorem ent_lr {A B : List SP} : Ent (A ++ B) (B ++ A) := ent_perm List.perm_append_comm
section
variable {b : World} {F : List SP} {p : Value} (hn : ∀ A : List SP, SC Tryz.prog n_p_gate_Gate_none [p] b (A ++ F) (fun v F' => v = .bool true ∧ F' = A ++ F))
include hn
end

abbrev BL := List (List Int × List Int)
def sto (gs : Nat) (w r : Int) (X : BL) : SP := exP (S := Nat × Int × List Kp) (fun s => StI w r s.2.1 s.2.2 ∧ s.2.2.map (fun e => (e.id, e.b)) = X) fun s => stB gs s.1 w r s.2.1 s.2.2 []
section
variable {b : World} {F : List SP} {gq gs n : Nat} {w r : Int} {V : List Int} {L : List Wn} {X : BL}
theorem New_sto (h : newOk w r) : SC Tryz.prog n_blob_New [.int .i64 w, .int .i64 r] b F (fun v F' => ∃ gs, v = .tuple ⟨[.pointer (some ⟨gs, 0, none⟩), .int .i64 0]⟩ ∧ F' = sto gs w r [] :: F) := by
 refine (New_blob_S h).out ?_
 rintro v _ ⟨gs, gm, rfl, rfl⟩
 exact ⟨_, ent_pack (G := fun s : Nat × Int × List Kp => stB gs s.1 w r s.2.1 s.2.2 []) (gm, 0, []) ⟨StI.nil w (by have := h.2.2.1; omega), rfl⟩, gs, rfl, rfl⟩
theorem Width_Q : SC Tryz.prog n_p_blob_Store_Width [.pointer (some ⟨gs, 0, none⟩)] b (sto gs w r X :: F) (fun v F' => v = .int .i64 w ∧ F' = sto gs w r X :: F) := by
 refine SC.opn ?_
 rintro ⟨gm, u, l⟩ ⟨h1, h2⟩
 refine (Width_S).out ?_
 rintro v _ ⟨rfl, rfl⟩
 exact ⟨_, ent_pack (G := fun s : Nat × Int × List Kp => stB gs s.1 w r s.2.1 s.2.2 []) (gm, u, l) ⟨h1, h2⟩, rfl, rfl⟩
set_option maxRecDepth 20000 in
theorem New_G (h0 : V.length ≠ 0) (hw : w ≠ 0) : SC Tryz.prog n_gate_New [.pointer (some ⟨gq, 0, none⟩), .pointer (some ⟨gs, 0, none⟩), .slice none 0 0] b (que gq n V L :: sto gs w r X :: F) (fun v F' => ∃ gg, v = .tuple ⟨[.pointer (some ⟨gg, 0, none⟩), .int .i64 0]⟩ ∧ F' = gat gg gq gs [] :: que gq n V L :: sto gs w r X :: F) := by
 refine enterS F_gate_New rfl rfl rfl ?_
 (refine sw_seq (sw_region ?_))
 refine so_box rfl rfl rfl rfl rfl fun g4 => ?_
 ((iterate 2 refine so_1 rfl ?_); refine so_nil (sn_then ?_); (iterate 2 refine sw_seq ?_); refine sw_region ?_; refine so_1 rfl ?_)
 refine so_call rfl rfl rfl ((Vector_Q (F := sto gs w r X :: pt g4 t_p_blob_Store [.pointer (some ⟨gs, 0, none⟩)] :: F)).ent (ent_keep 3 [1, 2, 0] rfl rfl)) ?_
 rintro u _ rfl
 refine so_fact (fun w H => (H.oat (k := 0) rfl).form) ?_
 rintro ⟨A1, c1, rfl, _, _, _⟩
 ((iterate 3 refine so_1 rfl ?_))
 refine so_if 21 rfl (fun h => absurd h (by omega)) (fun h => ?_)
 (refine so_l 3 rfl rfl rfl ?_)
 refine so_callE rfl rfl rfl ((Width_Q (F := rZ (.slice A1 V.length c1) V :: que gq n V L :: pt g4 t_p_blob_Store [.pointer (some ⟨gs, 0, none⟩)] :: F)).at (ent_keep 4 [2, 0, 1, 3] rfl rfl) (ent_keep 4 [1, 2, 0, 3] rfl rfl)) ?_
 ((iterate 2 refine so_1 rfl ?_); refine so_nil (sn_then ?_))
 refine sw_if rfl (fun h => absurd h hw) (fun h => ?_)
 (refine sw_skip ?_; refine sn_then ?_; refine sw_seq (sw_region ?_); refine so_1 rfl ?_; refine so_l 3 rfl rfl rfl ?_)
 refine so_mkmap dotP dotOk rfl rfl rfl fun gp => ?_
 (refine so_1 rfl ?_)
 refine so_box rfl rfl rfl rfl rfl fun gg => ?_
 (refine so_1 rfl ?_; refine so_nil (sn_then ?_); (iterate 2 refine sw_seq ?_); refine sw_region ?_; (iterate 3 refine so_1 rfl ?_); refine so_nil (sn_then ?_); refine sw_block ?_)
 refine sw_loop (S := Unit) (fun _ => [(8, .pointer (some ⟨gg, 0, none⟩)), (32, .int .i64 0), (33, .int .i64 0)]) (fun _ => _) (fun _ => True) (fun _ => 0) () ⟨rfl, rfl, rfl, trivial⟩ (Ent.refl _) trivial ?_
 rintro ⟨⟩ _
 (refine sw_seq (sw_region ?_); refine so_1 rfl ?_; refine so_nil (sn_then ?_); refine sw_seq ?_; refine sw_cond_f rfl ?_; refine sw_exit ?_; refine sn_then_exit ?_; refine sn_loop_exit ?_; refine sn_block_exit ?_; refine sn_then ?_; refine sw_seq (sw_region ?_); (iterate 3 refine so_1 rfl ?_); refine so_nil (sn_then ?_); refine sw_ret ?_)
 refine sn_ret rfl (.tmp rfl (.tmp rfl .nil)) ((ent_keep 6 [0, 1, 3, 4] rfl rfl).trans (((ent_close (G := []) (F := pt gg t_gate_Gate (gtC gq gs gp) :: mpG gp [] :: que gq n V L :: sto gs w r X :: F)).trans (ent_keep 5 [1, 2, 0, 3, 4] rfl rfl)).trans (ent_pack (G := fun s : Nat × List Pf => stG gg gq gs s.1 s.2 []) (p := fun s => prf s.2 = []) (gp, []) rfl))) ?_
 exact ⟨gg, rfl, rfl⟩
theorem New_Gq {p q : Option Addr} {l : Value} (hv : ∀ A : List SP, SC Tryz.prog n_p_hold_Queue_none [.pointer p] b (A ++ F) (fun v F' => v = .bool true ∧ F' = A ++ F)) : SC Tryz.prog n_gate_New [.pointer p, .pointer q, l] b F (fun v F' => v = .tuple ⟨[.pointer none, .int .i64 1]⟩ ∧ F' = F) := by
 refine enterS F_gate_New rfl rfl rfl ?_
 (refine sw_seq (sw_region ?_))
 refine so_box rfl rfl rfl rfl rfl fun g4 => ?_
 ((iterate 2 refine so_1 rfl ?_); refine so_nil (sn_then ?_); (iterate 2 refine sw_seq ?_); refine sw_region ?_; refine so_1 rfl ?_)
 refine so_callE rfl rfl rfl (NVector_S (F := pt g4 t_p_blob_Store [.pointer q] :: F) (fun A => by have := hv (A ++ [pt g4 t_p_blob_Store [.pointer q]]); rwa [List.append_assoc] at this)) ?_
 ((iterate 7 refine so_1 rfl ?_); refine so_nil (sn_then ?_); refine sw_cond_t rfl ?_; refine sw_seq (sw_region ?_); (iterate 2 refine so_1 rfl ?_); refine so_nil (sn_then ?_); refine sw_ret ?_; refine sn_then_ret ?_)
 refine sn_ret rfl (.tmp rfl (.tmp rfl .nil)) (ent_keep 1 [] rfl rfl) ?_
 exact ⟨rfl, rfl⟩
end

def gAddB (V : List Int) (L : List Wn) (w : Int) (e : Ev) (s : Int) : Bool := if chkE e V.length w = 0 then addB V L e s else false
def gAddE (V : List Int) (L : List Wn) (w : Int) (e : Ev) (s : Int) : Int := if chkE e V.length w = 0 then addE V L e s else chkE e V.length w
def gAddL (V : List Int) (L : List Wn) (w : Int) (e : Ev) (s : Int) : List Wn := if chkE e V.length w = 0 then addL V L e s else L
section
variable {b : World} {F : List SP} {gg gq gs n : Nat} {w r : Int} {V : List Int} {L : List Wn} {X : BL} {C : CL} {e : Ev} {s : Int}
set_option maxRecDepth 20000 in
set_option maxHeartbeats 4000000 in
theorem Add_G (he : ∀ w, Sat b F w → ER w e) (hew : EW e) (hl : EvL e) (hd : e.deps.length ≤ 1000000) (hr : e.refs.length ≤ 1000000) :
  SC Tryz.prog n_p_gate_Gate_Add [.pointer (some ⟨gg, 0, none⟩), evV e, .int .i64 s] b (gat gg gq gs C :: que gq n V L :: sto gs w r X :: F) (fun u F' => u = .tuple ⟨[.bool (gAddB V L w e s), .int .i64 (gAddE V L w e s)]⟩ ∧ F' = gat gg gq gs C :: que gq n V (gAddL V L w e s) :: sto gs w r X :: F) := by
 refine SC.opn ?_
 rintro ⟨gp, P⟩ hP
 refine SC.out (R := fun u F' => u = .tuple ⟨[.bool (gAddB V L w e s), .int .i64 (gAddE V L w e s)]⟩ ∧ F' = stG gg gq gs gp P (que gq n V (gAddL V L w e s) :: sto gs w r X :: F)) ?_ (by
  rintro u _ ⟨h1, rfl⟩
  exact ⟨_, ent_pack (G := fun s : Nat × List Pf => stG gg gq gs s.1 s.2 []) (p := fun s => prf s.2 = C) (gp, P) hP, h1, rfl⟩)
 have h32 := hew.l32
 have el := evC_len h32
 show SC _ _ _ _ (stG gg gq gs gp P (que gq n V L :: sto gs w r X :: F)) _
 refine enterS F_p_gate_Gate_Add rfl rfl rfl ?_
 (refine sw_seq (sw_region ?_))
 refine so_box rfl rfl rfl rfl rfl fun g4 => ?_
 ((iterate 2 refine so_1 rfl ?_); refine so_nil (sn_then ?_); (iterate 2 refine sw_seq ?_); refine sw_region ?_; refine so_1 rfl ?_)
 refine so_callE rfl rfl rfl ((none_G (F := que gq n V L :: sto gs w r X :: pt g4 t_api_Event (evC e) :: F)).at (ent_keep 6 [1, 2, 3, 4, 5, 0] rfl rfl) (ent_keep 6 [5, 0, 1, 2, 3, 4] rfl rfl)) ?_
 (refine so_nil (sn_then ?_); refine sw_cond_f rfl ?_; refine sw_skip ?_; refine sn_then ?_; (iterate 2 refine sw_seq ?_))
 refine sw_draw flo (pt g4 t_api_Event (evC e) :: pt gg t_gate_Gate (gtC gq gs gp) :: F) (by decide +kernel) (ent_keep 6 [0, 1] rfl rfl) ?_
 refine sd_ldA 0 rfl rfl rfl rfl rfl rfl (segO_all (by rw [el]; rfl)) rfl rfl ?_
 ((iterate 3 refine sd_1 rfl (.inl rfl) ?_); refine sd_l 1 rfl rfl rfl rfl ?_)
 refine sd_call rfl rfl rfl rfl ((Vector_Q (F := pt g4 t_api_Event (evC e) :: stG gg gq gs gp P (sto gs w r X :: F))).ent (ent_keep 6 [4, 0, 1, 2, 3, 5] rfl rfl)) ?_
 rintro u _ rfl
 refine ⟨ent_keep 7 [2, 3] rfl rfl, ?_⟩
 refine sd_fact (fun w H => (H.oat (k := 0) rfl).form) ?_
 rintro ⟨A1, c1, rfl, _, _, _⟩
 ((iterate 4 refine sd_1 rfl (.inl rfl) ?_); refine sd_l 1 rfl rfl rfl rfl ?_)
 refine sd_callE rfl rfl rfl rfl ((Width_Q (F := rZ (.slice A1 V.length c1) V :: que gq n V L :: pt g4 t_api_Event (evC e) :: stG gg gq gs gp P F)).at (ent_keep 7 [6, 0, 1, 2, 3, 4, 5] rfl rfl) (ent_keep 7 [1, 2, 3, 4, 5, 6, 0] rfl rfl)) (ent_keep 7 [2, 3] rfl rfl) ?_
 refine sd_callE rfl rfl rfl rfl (Check_S (up he (ent_keep 7 [] rfl rfl)) hew hl) (ent_keep 7 [2, 3] rfl rfl) ?_
 (refine sd_1 rfl (.inl rfl) ?_)
 refine sd_nil ?_
 (refine sn_then ?_; refine sw_seq (sw_region ?_); (iterate 2 refine so_1 rfl ?_); refine so_nil (sn_then ?_))
 by_cases hc : chkE e V.length w = 0
 rotate_left
 ·refine sw_know 25 (.bool true) rfl (congrArg Value.bool (by rw [decide_eq_false hc]; rfl)) ?_
  (refine sw_cond_t rfl ?_; refine sw_seq (sw_region ?_); (iterate 3 refine so_1 rfl ?_); refine so_nil (sn_then ?_); refine sw_ret ?_; refine sn_then_ret ?_)
  refine sn_ret rfl (.tmp rfl (.tmp rfl .nil)) (ent_keep 7 [3, 4, 5, 1, 6] rfl rfl) ?_
  rw [gAddB, gAddE, gAddL, if_neg hc, if_neg hc, if_neg hc]
  exact ⟨rfl, rfl⟩
 refine sw_know 25 (.bool false) rfl (congrArg Value.bool (by rw [decide_eq_true hc]; rfl)) ?_
 (refine sw_cond_f rfl ?_; refine sw_skip ?_; refine sn_then ?_; refine sw_seq ?_)
 refine sw_draw flo (pt g4 t_api_Event (evC e) :: pt gg t_gate_Gate (gtC gq gs gp) :: F) (by decide +kernel) (ent_keep 7 [2, 3] rfl rfl) ?_
 ((iterate 3 refine sd_1 rfl (.inl rfl) ?_); refine sd_l 1 rfl rfl rfl rfl ?_)
 refine sd_ldA 0 rfl rfl rfl rfl rfl rfl (segO_all (by rw [el]; rfl)) rfl rfl ?_
 (refine sd_1 rfl (.inl rfl) ?_)
 refine sd_call rfl rfl rfl rfl ((Add_S (gq := gq) (n := n) (V := V) (L := L) (F := rZ (.slice A1 V.length c1) V :: pt g4 t_api_Event (evC e) :: stG gg gq gs gp P (sto gs w r X :: F)) (fun w H => (he w (H.ent (ent_keep 6 [] rfl rfl))).dv) (fun w H => (he w (H.ent (ent_keep 6 [] rfl rfl))).rv) hd hr hew).ent (ent_keep 7 [1, 0, 2, 3, 4, 5, 6] rfl rfl)) ?_
 rintro _ _ ⟨rfl, rfl⟩
 refine ⟨ent_keep 7 [2, 3] rfl rfl, ?_⟩
 ((iterate 4 refine sd_1 rfl (.inl rfl) ?_))
 refine sd_nil ?_
 (refine sn_then ?_; refine sw_ret ?_)
 refine sn_ret rfl (.tmp rfl (.tmp rfl .nil)) (ent_keep 7 [3, 4, 5, 0, 6] rfl rfl) ?_
 rw [gAddB, gAddE, gAddL, if_pos hc, if_pos hc, if_pos hc]
 exact ⟨rfl, rfl⟩
end

def findP (d : Int × Int) : List Pf → Option Pf
 | [] => none
 | e :: l => if e.d = d then some e else findP d l
theorem getM_p (d : Int × Int) (l : List Pf) : getM d (pM l) = (findP d l).map fun e => .agg ⟨[e.v]⟩ := by
 induction l with
 | nil => rfl
 | cons e l ih =>
  simp only [pM, getM, findP]
  split
  ·rfl
  ·exact ih
theorem cfm_p (d : Int × Int) (l : List Pf) : cfm d (prf l) = ((findP d l).map (·.ids)).getD [] := by
 induction l with
 | nil => rfl
 | cons e l ih =>
  show (if e.d = d then e.ids else cfm d (prf l)) = _
  simp only [findP]
  split
  ·rfl
  ·exact ih
theorem findP_mem {d : Int × Int} {l : List Pf} {e : Pf} (h : findP d l = some e) : e ∈ l ∧ e.d = d := by
 induction l with
 | nil => cases h
 | cons x l ih =>
  simp only [findP] at h
  split at h
  ·cases h; exact ⟨List.mem_cons_self, ‹_›⟩
  ·exact ⟨List.mem_cons_of_mem _ (ih h).1, (ih h).2⟩
theorem pF_split {l : List Pf} {e : Pf} (h : e ∈ l) : ∃ l1 l2, l = l1 ++ e :: l2 ∧ (pF l).Perm (rD e.v e.ids :: pF (l1 ++ l2)) := by
 obtain ⟨l1, l2, rfl⟩ := List.append_of_mem h
 refine ⟨l1, l2, rfl, ?_⟩
 clear h
 induction l1 with
 | nil => exact .refl _
 | cons x l1 ih => exact (ih.cons _).trans (.swap _ _ _)
theorem pF_row {b : World} {F : List SP} {l : List Pf} {e : Pf} {k : Nat} (hk : nth F k = some (all (pF l))) (h : e ∈ l) : ∀ w, Sat b F w → SL w 32 e.v e.ids.length (idsC e.ids) := fun w hS => by
 obtain ⟨l1, l2, _, hp⟩ := pF_split h
 obtain ⟨h1, hl, hA⟩ := hS.mem.get hk
 have h2 : Sat b (rD e.v e.ids :: pF (l1 ++ l2)) w := ⟨hS.os, hS.tape, hS.output, (ent_perm hp _ hA).mono hl⟩
 exact (h2.oat (k := 0) rfl).sl
theorem prf_at {b : World} {F : List SP} {l : List Pf} {k : Nat} (d : Int × Int) {W : World} (H : Sat b F W) (hk : nth F k = some (all (pF l))) :
  ∃ A c, (getM d (pM l)).getD (.agg ⟨[.slice none 0 0]⟩) = .agg ⟨[.slice A (cfm d (prf l)).length c]⟩ := by
 rw [getM_p, cfm_p]
 cases hf : findP d l with
 | none => exact ⟨none, 0, rfl⟩
 | some e =>
  obtain ⟨A, c, h1, _⟩ := sl_form (pF_row hk (findP_mem hf).1 W H)
  refine ⟨A, c, ?_⟩
  show (Value.agg ⟨[e.v]⟩) = _
  rw [h1]; rfl
theorem prf_sl {b : World} {F : List SP} {l : List Pf} {k : Nat} {d : Int × Int} {A : Option Addr} {c : Nat} (h : (getM d (pM l)).getD (.agg ⟨[.slice none 0 0]⟩) = .agg ⟨[.slice A (cfm d (prf l)).length c]⟩) (hk : nth F k = some (all (pF l))) :
  ∀ W, Sat b F W → SL W 32 (.slice A (cfm d (prf l)).length c) (cfm d (prf l)).length (idsC (cfm d (prf l))) := fun W H => by
 rw [getM_p, cfm_p] at h
 rw [cfm_p]
 cases hf : findP d l with
 | none =>
  rw [hf] at h
  cases h
  exact ⟨none, 0, rfl, rfl, Nat.le_refl _, by decide, fun _ => rfl, fun h => absurd h (by decide)⟩
 | some e =>
  rw [hf] at h
  have h1 : e.v = .slice A e.ids.length c := by
   have h2 : (Value.agg ⟨[e.v]⟩) = .agg ⟨[.slice A e.ids.length c]⟩ := h
   exact congrArg (fun z => match z with | Value.agg ⟨[u]⟩ => u | _ => Value.bool false) h2
  show SL W 32 (.slice A e.ids.length c) e.ids.length (idsC e.ids)
  rw [← h1]; exact pF_row hk (findP_mem hf).1 W H
def wholeB (L : List Wn) (C : CL) (d : Int × Int) : Bool := match findW d L with
 | some x => decide ((cfm d C).length = x.e.refs.length)
 | none => false
theorem Hs.whole {d : Int × Int} {L : List Wn} {y : Ev} {s : Int} {is : Bool} (h : Hs d L y s is) (C : CL) : wholeB L C d = (is && decide ((cfm d C).length = y.refs.length)) := by
 have h1 := h.eq
 unfold holdsW at h1
 unfold wholeB
 cases hf : findW d L with
 | none =>
  rw [hf] at h1
  have h3 : is = false := congrArg (fun z => z.2.2) h1
  rw [h3]; rfl
 | some x =>
  rw [hf] at h1
  have h2 : y.refs = x.e.refs := congrArg (fun z => z.1.refs) h1
  have h3 : is = true := congrArg (fun z => z.2.2) h1
  rw [h2, h3]; rfl
section
variable {b : World} {F : List SP} {gg gq gs gp n : Nat} {V : List Int} {L : List Wn} {P : List Pf} {d : Int × Int}
set_option maxRecDepth 20000 in
set_option maxHeartbeats 4000000 in
theorem whole_G (hd : dotOk d) : SC Tryz.prog n_p_gate_Gate_whole [.pointer (some ⟨gg, 0, none⟩), dotP d] b (stG gg gq gs gp P (que gq n V L :: F)) (fun u F' => u = .bool (wholeB L (prf P) d) ∧ F' = stG gg gq gs gp P (que gq n V L :: F)) := by
 refine enterS F_p_gate_Gate_whole rfl rfl rfl ?_
 (refine sw_seq (sw_region ?_))
 refine so_box rfl rfl rfl rfl rfl fun g3 => ?_
 (refine so_1 rfl ?_; refine so_nil (sn_then ?_); refine sw_seq ?_)
 refine sw_fact (que_qi (k := 4) rfl) fun hq => ?_
 refine sw_slide (S' := Nat × Ev × Int × Bool) flo 9 0 0 [0, 1, 2, 3, 4, 5, 6, 7, 8] (OT.pre [10, 11] .nil) (pt g3 t_api_Dot [.int .i64 d.1, .int .i64 d.2] :: pt gg t_gate_Gate (gtC gq gs gp) :: F) rfl (by decide +kernel) rfl (ent_keep 5 [0, 1] rfl rfl) (fun q => [(0, .pointer (some ⟨gg, 0, none⟩)), (3, .pointer (some ⟨g3, 0, none⟩)), (5, .pointer (some ⟨q.1, 0, none⟩)), (14, .agg ⟨wsC q.2.1 q.2.2.1⟩), (15, .bool q.2.2.2)]) (fun q => pt q.1 t_api_Waiting (wsC ev0 0) :: rZ q.2.1.dv q.2.1.deps :: rD q.2.1.rv q.2.1.refs :: pt g3 t_api_Dot [.int .i64 d.1, .int .i64 d.2] :: stG gg gq gs gp P (que gq n V L :: F)) (fun q => Hs d L q.2.1 q.2.2.1 q.2.2.2) (fun q _ => ent_keep 8 [3, 4] rfl rfl) ?_ (fun J => ?_)
 ·rintro ⟨g5, y, s, is⟩ hs
  dsimp only at hs ⊢
  have h32 := hs.ew.l32
  refine st_ops 10 2 .nil rfl rfl ?_
  skip
  refine sd_fact (fun w H => (H.oat (k := 2) rfl).form) ?_
  rintro ⟨A2, c2, hrv, _, _, _⟩
  refine sd_fact (rows_one (e := y) (i := 1) (j := 2) rfl rfl) fun hone => ?_
  refine sd_stW (vs := wsC y s) 0 rfl rfl rfl rfl rfl rfl rfl rfl (wsC_len h32) (wsC_one hone.1 hone.2) (by rw [wsC_len h32]; rfl) (ent_keep 8 [3, 4] rfl rfl) ?_
  (refine sd_1 rfl (.inl rfl) ?_)
  refine sd_nil (sn_last ?_)
  (refine sn_then ?_; refine sw_seq ?_)
  refine sw_fact (fun w H => by exact prf_at (l := P) d (k := 6) H rfl) ?_
  rintro ⟨A1, c1, hat⟩
  refine sw_draw flo (pt g5 t_api_Waiting (wsC y s) :: pt g3 t_api_Dot [.int .i64 d.1, .int .i64 d.2] :: pt gg t_gate_Gate (gtC gq gs gp) :: mpG gp P :: F) (by decide +kernel) (ent_keep 8 [0, 3, 4, 5] rfl rfl) ?_
  ((iterate 2 refine sd_1 rfl (.inl rfl) ?_))
  cases is with
  | false =>
   ((iterate 15 refine sd_1 rfl (.inl rfl) ?_))
   refine sd_nil ?_
   (refine sn_then ?_; refine sw_ret ?_)
   refine sn_ret rfl (.tmp rfl .nil) (ent_keep 8 [4, 5, 6, 7] rfl rfl) ?_
   rw [hs.whole]
   exact ⟨rfl, rfl⟩
  | true =>
   ((iterate 3 refine sd_1 rfl (.inl rfl) ?_); refine sd_l 2 rfl rfl rfl rfl ?_; refine sd_l 1 rfl rfl rfl rfl ?_)
   refine sd_lookN 3 dotMK hd hat rfl rfl rfl rfl rfl rfl rfl rfl rfl ?_
   refine sd_pu rfl (pu_fld rfl rfl rfl rfl rfl rfl rfl) rfl rfl ?_
   ((iterate 3 refine sd_1 rfl (.inl rfl) ?_))
   refine sd_ld 0 rfl rfl rfl rfl rfl rfl ((wsC_rv h32).trans (congrArg some hrv)) rfl rfl ?_
   ((iterate 4 refine sd_1 rfl (.inl rfl) ?_))
   refine sd_nil ?_
   (refine sn_then ?_; refine sw_ret ?_)
   refine sn_ret rfl (.tmp rfl .nil) (ent_keep 8 [4, 5, 6, 7] rfl rfl) ?_
   rw [hs.whole]
   refine ⟨congrArg Value.bool ?_, rfl⟩
   simp
   omega
 ·refine sd_nil ?_
  refine sn_t1run 0 5 (R2 := [5, 6, 7, 8]) rfl rfl (by decide +kernel) rfl (ent_keep 5 [0, 1] rfl rfl) ?_
  ((iterate 3 refine sd_1 rfl (.inl rfl) ?_); refine sd_l 1 rfl rfl rfl rfl ?_; refine sd_l 0 rfl rfl rfl rfl ?_)
  refine sd_nil ?_
  refine sn_t1eff (R2 := [6, 7, 8]) rfl (by decide +kernel) rfl rfl (ent_keep 5 [0, 1] rfl rfl) ?_ ?_
  ·refine sd_new rfl rfl rfl rfl rfl rfl (ent_keep 5 [0, 1] rfl rfl) fun g5 => ?_
   refine sd_nil ?_
   refine sn_tx 5 4 rfl rfl (ent_keep 6 [1, 2] rfl rfl) ?_
   refine sd_call rfl rfl rfl rfl ((Holds_U (gq := gq) (n := n) (V := V) (L := L) (F := pt g5 t_api_Waiting (wsC ev0 0) :: pt g3 t_api_Dot [.int .i64 d.1, .int .i64 d.2] :: stG gg gq gs gp P F) hd hq).ent (ent_keep 6 [5, 0, 1, 2, 3, 4] rfl rfl)) ?_
   rintro _ _ ⟨y, s, is, hs, rfl, rfl⟩
   refine ⟨ent_keep 8 [4, 5] rfl rfl, ?_⟩
   ((iterate 3 refine sd_1 rfl (.inl rfl) ?_))
   refine sd_nil ?_
   exact J (g5, y, s, is) _ _ hs ⟨rfl, rfl, rfl, rfl, rfl, trivial⟩ (ent_keep 8 [3, 0, 1, 4, 5, 6, 7, 2] rfl rfl)
  ·refine sd_call rfl rfl rfl rfl ((Holds_U (gq := gq) (n := n) (V := V) (L := L) (F := pt g3 t_api_Dot [.int .i64 d.1, .int .i64 d.2] :: stG gg gq gs gp P F) hd hq).ent (ent_keep 5 [4, 0, 1, 2, 3] rfl rfl)) ?_
   rintro _ _ ⟨y, s, is, hs, rfl, rfl⟩
   refine ⟨ent_keep 7 [3, 4] rfl rfl, ?_⟩
   refine sd_nil ?_
   refine sn_t1run 6 3 (R2 := []) rfl rfl (by decide +kernel) rfl (ent_keep 7 [3, 4] rfl rfl) ?_
   ((iterate 3 refine sd_1 rfl (.inl rfl) ?_))
   refine sd_nil ?_
   refine sn_t1nil rfl (by decide +kernel) rfl (ent_keep 7 [3, 4] rfl rfl) ?_
   refine sd_new rfl rfl rfl rfl rfl rfl (ent_keep 7 [3, 4] rfl rfl) fun g5 => ?_
   refine sd_nil ?_
   exact J (g5, y, s, is) _ _ hs ⟨rfl, rfl, rfl, rfl, rfl, trivial⟩ (ent_keep 8 [0, 1, 2, 4, 5, 6, 7, 3] rfl rfl)
end
open Go

abbrev dC (d : Int × Int) : List Value := [.int .i64 d.1, .int .i64 d.2]
theorem dots_seg {D : List (Int × Int)} {j : Nat} {x : Int × Int} (hj : D[j]? = some x) : ((dotsC D).drop (j * 2)).take 2 = dC x := by
 obtain ⟨hl, rfl⟩ := List.getElem?_eq_some_iff.1 hj
 rw [dotsC_fl]
 exact flC_seg (f := dC) (fun _ _ => rfl) hl
theorem dots_set {D : List (Int × Int)} {j : Nat} {x : Int × Int} (hj : j < D.length) : spl (dotsC D) (j * 2) (dC x) = dotsC (D.set j x) := by
 rw [dotsC_fl, dotsC_fl]
 exact flC_set (f := dC) (fun _ _ => rfl) rfl hj
theorem dots_take (D : List (Int × Int)) (j : Nat) : (dotsC D).take (j * 2) = dotsC (D.take j) := by
 rw [dotsC_fl, dotsC_fl]
 exact flC_takeN (f := dC) (fun _ _ => rfl) j
theorem set_take_drop {α : Type} {X : List α} {i j : Nat} {y : α} (hij : i < j) (hi : i < X.length) : (X.set i y).take (i + 1) = X.take i ++ [y] ∧ (X.set i y).drop j = X.drop j := by
 constructor
 ·apply List.ext_getElem?
  intro k
  rw [List.getElem?_take, List.getElem?_set, List.getElem?_append, List.length_take, List.getElem?_take]
  have hm : min i X.length = i := by omega
  rw [hm]
  by_cases h1 : k < i
  ·rw [if_pos (by omega), if_neg (by omega), if_pos h1, if_pos h1]
  ·by_cases h2 : k = i
   ·subst h2
    rw [if_pos (by omega), if_pos rfl, if_pos hi, if_neg (by omega), Nat.sub_self]; rfl
   ·rw [if_neg (by omega), if_neg h1, List.getElem?_eq_none (by simp; omega)]
 ·apply List.ext_getElem?
  intro k
  rw [List.getElem?_drop, List.getElem?_drop, List.getElem?_set, if_neg (by omega)]
section
variable {b : World} {F : List SP} {p : Int × Int → Bool} {f : Nat} [Bodied Tryz.prog f] {pre post : List Value} {D : List (Int × Int)} {A : Option Addr} {c : Nat}
 (hc : ∀ d ∈ D, ∀ B : List SP, SC Tryz.prog f (pre ++ ([dotP d] ++ post)) b (B ++ F) (fun u F' => u = .bool (p d) ∧ F' = B ++ F))
include hc
set_option maxRecDepth 20000 in
set_option maxHeartbeats 4000000 in
theorem IndexDot_S (hn : D.length ≤ 100000) :
  SC Tryz.prog n_slices_IndexFunc_sl_api_Dot_api_Dot [.slice A D.length c, .func (.func f) ⟨pre⟩ ⟨post⟩] b (rO A c D.length D :: F) (fun u F' => (∃ P T, D = P ++ T ∧ (∀ e ∈ P, p e = false) ∧ (∀ t T', T = t :: T' → p t = true) ∧ u = .int .i64 (if T = [] then -1 else (P.length : Int))) ∧ F' = rO A c D.length D :: F) := by
 refine enterS F_slices_IndexFunc_sl_api_Dot_api_Dot rfl rfl rfl ?_
 refine sw_fact (fun w H => (H.oat (k := 0) rfl).form) ?_
 rintro ⟨A', c', hv, _, _, q3⟩
 cases hv
 (refine sw_seq (sw_region ?_); refine so_1 rfl ?_; refine so_nil (sn_then ?_); (iterate 2 refine sw_seq ?_); refine sw_region ?_; (iterate 3 refine so_1 rfl ?_); refine so_nil (sn_then ?_); refine sw_block ?_)
 refine sw_loop (S := Nat) (fun i => [(0, .slice A D.length c), (1, .func (.func f) ⟨pre⟩ ⟨post⟩), (7, .int .i64 (D.length : Int)), (8, .int .i64 (i : Int))]) (fun _ => rO A c D.length D :: F) (fun i => i ≤ D.length ∧ ∀ e ∈ D.take i, p e = false) (fun i => D.length - i) 0 ⟨rfl, rfl, rfl, rfl, trivial⟩ (Ent.refl _) ⟨Nat.zero_le _, fun e he => by simp at he⟩ ?_
 rintro i ⟨hi, hP⟩
 (refine sw_seq (sw_region ?_); refine so_1 rfl ?_; refine so_nil (sn_then ?_); refine sw_seq ?_)
 refine sw_if rfl (fun h1 => ?_) (fun h1 => ?_)
 ·have h1' : i < D.length := by omega
  obtain ⟨gg, oo, rfl⟩ := q3 (by omega)
  have hx := List.getElem?_eq_getElem h1'
  have fx := dots_seg hx
  have hcy := hc _ (List.getElem_mem h1')
  have hsn : D.take (i + 1) = D.take i ++ [D[i]] := List.take_succ_eq_append_getElem h1'
  have hdr : D.drop i = D[i] :: D.drop (i + 1) := List.drop_eq_getElem_cons h1'
  generalize D[i] = y at *
  (refine sw_skip ?_; refine sn_then ?_; refine sw_seq ?_; refine sw_block ?_; refine sw_seq (sw_region ?_); (iterate 2 refine so_1 rfl ?_); refine so_nil (sn_then ?_); refine sw_seq (sw_region ?_); (iterate 3 refine so_1 rfl ?_); refine so_2 rfl (by omega) ?_)
  refine so_ldrow 0 (i * 2) rfl rfl rfl rfl rfl rfl rfl (by rw [mulz_eq, Int.toNat_natCast]) (by omega) fx rfl ?_
  refine so_callE rfl rfl rfl (hcy [rO (some ⟨gg, oo, none⟩) c D.length D]) ?_
  (refine so_nil (sn_then ?_))
  refine sw_cond rfl (fun q => ?_) (fun q => ?_)
  ·(refine sw_seq (sw_region ?_); (iterate 2 refine so_1 rfl ?_); refine so_nil (sn_then ?_); refine sw_ret ?_; refine sn_block_ret ?_; refine sn_then_ret ?_; refine sn_loop_ret ?_; refine sn_block_ret ?_; refine sn_then_ret ?_)
   refine sn_ret rfl (.tmp rfl .nil) (Ent.refl _) ?_
   refine ⟨⟨D.take i, D.drop i, (List.take_append_drop i D).symm, hP, fun t T' h => ?_, ?_⟩, rfl⟩
   ·rw [hdr] at h; cases h; exact q
   ·rw [hdr, if_neg (by simp), List.length_take, Nat.min_eq_left hi]; rfl
  ·(refine sw_skip ?_; refine sn_block ?_; refine sn_then ?_; refine sw_region ?_; refine so_2 rfl (by (unfold I64; omega)) ?_; refine so_1 rfl ?_; refine so_nil ?_)
   refine sn_round (i + 1) ⟨rfl, rfl, rfl, rfl, trivial⟩ (Ent.refl _) ⟨h1', fun e he => ?_⟩ (by omega)
   rw [hsn] at he
   rcases List.mem_append.1 he with he | he
   ·exact hP e he
   ·rw [List.mem_singleton.1 he]; exact q
 ·obtain rfl : i = D.length := by omega
  rw [List.take_length] at hP
  (refine sw_exit ?_; refine sn_then_exit ?_; refine sn_loop_exit ?_; refine sn_block_exit ?_; refine sn_then ?_; refine sw_seq (sw_region ?_); refine so_1 rfl ?_; refine so_nil (sn_then ?_); refine sw_ret ?_)
  refine sn_ret rfl (.tmp rfl .nil) (Ent.refl _) ?_
  exact ⟨⟨D, [], by simp, hP, (fun t T' h => by cases h), rfl⟩, rfl⟩
set_option maxRecDepth 20000 in
set_option maxHeartbeats 4000000 in
theorem DeleteDot_S (hn : D.length ≤ 100000) :
  SC Tryz.prog n_slices_DeleteFunc_sl_api_Dot_api_Dot [.slice A D.length c, .func (.func f) ⟨pre⟩ ⟨post⟩] b (rO A c D.length D :: F) (fun u F' => u = .slice A (D.filter fun e => !p e).length c ∧ F' = rO A c (D.filter fun e => !p e).length (D.filter fun e => !p e) :: F) := by
 refine enterS F_slices_DeleteFunc_sl_api_Dot_api_Dot rfl rfl rfl ?_
 (refine sw_seq (sw_region ?_); refine so_1 rfl ?_; refine so_nil (sn_then ?_); refine sw_seq (sw_region ?_); (iterate 2 refine so_1 rfl ?_))
 refine so_call rfl rfl rfl (IndexDot_S hc hn) ?_
 rintro _ _ ⟨⟨P, T, hPT, hP, hT, rfl⟩, rfl⟩
 have hfP : P.filter (fun e => !p e) = P := List.filter_eq_self.2 fun e he => by rw [hP e he]; rfl
 cases T with
 | nil =>
  rw [if_pos rfl]
  rw [List.append_nil] at hPT
  subst hPT
  rw [hfP]
  (refine so_1 rfl ?_; refine so_nil (sn_then ?_); (iterate 2 refine sw_seq ?_); refine sw_region ?_; (iterate 2 refine so_1 rfl ?_); refine so_nil (sn_then ?_); refine sw_cond_t rfl ?_; refine sw_seq (sw_region ?_); (iterate 2 refine so_1 rfl ?_); refine so_nil (sn_then ?_); refine sw_ret ?_; refine sn_then_ret ?_)
  refine sn_ret rfl (.tmp rfl .nil) (Ent.refl _) ?_
  exact ⟨rfl, rfl⟩
 | cons t T =>
 rw [if_neg (by simp)]
 have ht := hT t T rfl
 have hl : D.length = P.length + (T.length + 1) := by rw [hPT, List.length_append, List.length_cons]
 refine so_fact (fun w H => (H.oat (k := 0) rfl).form) ?_
 rintro ⟨A', c', hv, hnc, _, q3⟩
 cases hv
 obtain ⟨gg, oo, rfl⟩ := q3 (by omega)
 (refine so_1 rfl ?_; refine so_nil (sn_then ?_); (iterate 2 refine sw_seq ?_); refine sw_region ?_; (iterate 2 refine so_1 rfl ?_); refine so_nil (sn_then ?_); refine sw_cond_f rfl ?_; refine sw_skip ?_; refine sn_then ?_; (iterate 2 refine sw_seq ?_); refine sw_region ?_; refine so_1 rfl ?_; refine so_2 rfl (by (unfold I64; omega)) ?_; refine so_1 rfl ?_; refine so_nil (sn_then ?_); refine sw_block ?_)
 rw [show (P.length : Int) + 1 = ((P.length + 1 : Nat) : Int) by omega]
 have hti : D.take (P.length + 1) = P ++ [t] := by
  rw [hPT, List.take_append, List.take_of_length_le (by omega), Nat.add_sub_cancel_left]; rfl
 refine sw_loop (S := Nat × Nat × List (Int × Int)) (fun s => [(0, .slice (some ⟨gg, oo, none⟩) D.length c), (1, .func (.func f) ⟨pre⟩ ⟨post⟩), (5, .int .i64 (s.1 : Int)), (6, .int .i64 (s.2.1 : Int))]) (fun s => rO (some ⟨gg, oo, none⟩) c D.length s.2.2 :: F)
  (fun s => s.1 < s.2.1 ∧ s.2.1 ≤ D.length ∧ s.2.2.length = D.length ∧ s.2.2.take s.1 = (D.take s.2.1).filter (fun e => !p e) ∧ s.2.2.drop s.2.1 = D.drop s.2.1) (fun s => D.length - s.2.1) (P.length, P.length + 1, D) ⟨rfl, rfl, rfl, rfl, trivial⟩ (Ent.refl _) ⟨by dsimp only; omega, by dsimp only; omega, rfl, ?_, rfl⟩ ?_
 ·dsimp only
  rw [hti, List.filter_append, hfP, List.filter_cons, ht, hPT, List.take_append_of_le_length (by omega), List.take_length]; simp
 rintro ⟨i, j, X⟩ ⟨hij, hj, hX, hXt, hXd⟩
 dsimp only at hij hj hX hXt hXd ⊢
 ((iterate 2 refine sw_seq ?_); refine sw_region ?_; (iterate 4 refine so_1 rfl ?_); refine so_nil (sn_then ?_))
 refine sw_if rfl (fun h1 => ?_) (fun h1 => ?_)
 ·have h1' : j < D.length := by omega
  have hx : X[j]? = some D[j] := by
   have := congrArg (·[0]?) hXd
   simpa [List.getElem?_drop, h1'] using this
  have hsn : D.take (j + 1) = D.take j ++ [D[j]] := List.take_succ_eq_append_getElem h1'
  have fx := dots_seg hx
  have hcy := hc _ (List.getElem_mem h1')
  have hXd2 : X.drop (j + 1) = D.drop (j + 1) := by
   have := congrArg List.tail hXd
   simpa [List.tail_drop] using this
  generalize D[j] = y at *
  (refine sw_skip ?_; refine sn_then ?_; refine sw_seq ?_; refine sw_block ?_; refine sw_seq (sw_region ?_); (iterate 2 refine so_1 rfl ?_); refine so_2 rfl (by omega) ?_)
  refine so_ldrow 0 (j * 2) rfl rfl rfl rfl rfl rfl rfl (by rw [mulz_eq, Int.toNat_natCast]) (by omega) fx rfl ?_
  refine so_new rfl rfl rfl rfl rfl fun g7 => ?_
  (refine so_s1 0 rfl rfl rfl rfl ?_; refine so_nil (sn_then ?_); refine sw_seq (sw_region ?_); refine so_1 rfl ?_; refine so_l 0 rfl rfl rfl ?_)
  refine so_callE rfl rfl rfl (hcy [pt g7 t_api_Dot (dC y), rO (some ⟨gg, oo, none⟩) c D.length X]) ?_
  (refine so_1 rfl ?_; refine so_nil (sn_then ?_))
  refine sw_cond rfl (fun q => ?_) (fun q => ?_)
  ·have q' : p y = false := by simpa using q
   have hw := dots_set (x := y) (D := X) (j := i) (by omega)
   have hel := dotsC_len X
   rw [hX] at hel
   obtain ⟨e1, e2⟩ := set_take_drop (X := X) (y := y) hij (by omega)
   (refine sw_seq (sw_region ?_); (iterate 2 refine so_1 rfl ?_); refine so_l 0 rfl rfl rfl ?_; refine so_2 rfl (by omega) ?_)
   refine so_strow 1 (i * 2) rfl rfl rfl rfl rfl rfl rfl rfl hw rfl (by rw [mulz_eq, Int.toNat_natCast]) (by rw [hel]; simp only [List.length_cons, List.length_nil]; omega) (by simp [Value.oneCell']) ?_
   (refine so_nil (sn_then ?_); refine sw_region ?_; refine so_1 rfl ?_; refine so_2 rfl (by (unfold I64; omega)) ?_; refine so_1 rfl ?_; refine so_nil ?_; refine sn_block ?_; refine sn_then ?_; refine sw_region ?_; refine so_1 rfl ?_; refine so_2 rfl (by (unfold I64; omega)) ?_; refine so_1 rfl ?_; refine so_nil ?_)
   rw [show (i : Int) + 1 = ((i + 1 : Nat) : Int) by omega, show (j : Int) + 1 = ((j + 1 : Nat) : Int) by omega]
   refine sn_round (i + 1, j + 1, X.set i y) ⟨rfl, rfl, rfl, rfl, trivial⟩ (ent_keep 2 [1] rfl rfl) ⟨by dsimp only; omega, h1', by rw [List.length_set]; exact hX, ?_, ?_⟩ (by dsimp only; omega)
   ·dsimp only
    rw [e1, hXt, hsn, List.filter_append, List.filter_cons, q']; rfl
   ·dsimp only
    rw [← hXd2]
    exact (set_take_drop (X := X) (y := y) (j := j + 1) (by omega) (by omega)).2
  ·have q' : p y = true := by simpa using q
   (refine sw_skip ?_; refine sn_block ?_; refine sn_then ?_; refine sw_region ?_; refine so_1 rfl ?_; refine so_2 rfl (by (unfold I64; omega)) ?_; refine so_1 rfl ?_; refine so_nil ?_)
   rw [show (j : Int) + 1 = ((j + 1 : Nat) : Int) by omega]
   refine sn_round (i, j + 1, X) ⟨rfl, rfl, rfl, rfl, trivial⟩ (ent_keep 2 [1] rfl rfl) ⟨by dsimp only; omega, h1', hX, ?_, hXd2⟩ (by dsimp only; omega)
   dsimp only
   rw [hXt, hsn, List.filter_append, List.filter_cons, q']; simp
 ·obtain rfl : j = D.length := by omega
  rw [List.take_length] at hXt
  have hil : i = (D.filter fun e => !p e).length := by
   have := congrArg List.length hXt
   rw [List.length_take] at this; omega
  have e9 := dots_take X i
  rw [hXt] at e9
  have hi1 : ((i : Int)).toNat = i := Int.toNat_natCast i
  (refine sw_exit ?_; refine sn_then_exit ?_; refine sn_loop_exit ?_; refine sn_block_exit ?_; refine sn_then ?_; refine sw_seq (sw_region ?_); (iterate 2 refine so_1 rfl ?_); refine so_2 rfl (by omega) ?_)
  refine so_know 38 (.slice (if c = i then some ⟨gg, oo, none⟩ else (some (⟨gg, oo, none⟩ : Addr)).map (·.add (i * 2))) (D.length - i) (c - i)) rfl (by rw [hi1]) ?_
  refine so_clearRow 0 rfl rfl rfl rfl rfl rfl rfl rfl rfl rfl (fun h => by
   rw [if_neg (by omega)]
   simp only [Option.map_some, Addr.add, Option.some.injEq]
   split <;> simp_all) (by omega) ?_
  rw [e9]
  (refine so_nil (sn_then ?_); refine sw_seq (sw_region ?_); (iterate 2 refine so_1 rfl ?_); refine so_2 rfl (by omega) ?_; refine so_1 rfl ?_; refine so_nil (sn_then ?_); refine sw_ret ?_)
  refine sn_ret rfl (.tmp rfl .nil) (Ent.refl _) ?_
  rw [← hil]
  exact ⟨rfl, rfl⟩
end

theorem scB {P : Program} {f : FuncId} {args : List Value} {b : World} {G B : List SP} {v : Value} (h : SC P f args b (G ++ B) (fun u F' => u = v ∧ F' = G ++ B)) : SC P f args b (B ++ G) (fun u F' => u = v ∧ F' = B ++ G) := by
 refine (h.ent ent_lr).out ?_
 rintro u _ ⟨h1, rfl⟩
 exact ⟨_, ent_lr, h1, rfl⟩
def readyL (V : List Int) (L : List Wn) (C : CL) : List (Int × Int) := (ripes V L).filter (wholeB L C)
section
variable {b : World} {F : List SP} {gg gq gs gp g1 n : Nat} {V : List Int} {L : List Wn} {P : List Pf} {C : CL} {d : Int × Int}
set_option maxRecDepth 20000 in
theorem Ready1_S (hd : dotOk d) : SC Tryz.prog n_p_gate_Gate_Ready_1 [dotP d, .pointer (some ⟨g1, 0, none⟩)] b (pt g1 t_p_gate_Gate [.pointer (some ⟨gg, 0, none⟩)] :: stG gg gq gs gp P (que gq n V L :: F)) (fun u F' => u = .bool (!wholeB L (prf P) d) ∧ F' = pt g1 t_p_gate_Gate [.pointer (some ⟨gg, 0, none⟩)] :: stG gg gq gs gp P (que gq n V L :: F)) := by
 refine enterS F_p_gate_Gate_Ready_1 rfl rfl rfl ?_
 (refine sw_seq (sw_region ?_))
 refine so_box rfl rfl rfl rfl rfl fun g2 => ?_
 (refine so_1 rfl ?_; refine so_nil (sn_then ?_); refine sw_seq (sw_region ?_); refine so_l 1 rfl rfl rfl ?_; refine so_l 0 rfl rfl rfl ?_)
 refine so_callE rfl rfl rfl ((whole_G (F := pt g2 t_api_Dot [.int .i64 d.1, .int .i64 d.2] :: pt g1 t_p_gate_Gate [.pointer (some ⟨gg, 0, none⟩)] :: F) hd).at (ent_keep 6 [2, 3, 4, 5, 0, 1] rfl rfl) (ent_keep 6 [4, 5, 0, 1, 2, 3] rfl rfl)) ?_
 ((iterate 2 refine so_1 rfl ?_); refine so_nil (sn_then ?_); refine sw_ret ?_)
 refine sn_ret rfl (.tmp rfl .nil) (ent_keep 6 [1, 2, 3, 4, 5] rfl rfl) ?_
 exact ⟨rfl, rfl⟩
set_option maxRecDepth 20000 in
set_option maxHeartbeats 4000000 in
theorem Ready_G : SC Tryz.prog n_p_gate_Gate_Ready [.pointer (some ⟨gg, 0, none⟩)] b (gat gg gq gs C :: que gq n V L :: F) (fun u F' => ∃ A c, u = .slice A (readyL V L C).length c ∧ F' = rO A c (readyL V L C).length (readyL V L C) :: gat gg gq gs C :: que gq n V L :: F) := by
 refine SC.opn ?_
 rintro ⟨gp, P⟩ hP
 refine SC.out (R := fun u F' => ∃ A c, u = .slice A (readyL V L C).length c ∧ F' = rO A c (readyL V L C).length (readyL V L C) :: stG gg gq gs gp P (que gq n V L :: F)) ?_ (by
  rintro u _ ⟨A, c, h1, rfl⟩
  exact ⟨_, ent_cons (ent_pack (G := fun s : Nat × List Pf => stG gg gq gs s.1 s.2 []) (p := fun s => prf s.2 = C) (gp, P) hP), A, c, h1, rfl⟩)
 dsimp only at hP
 subst hP
 show SC _ _ _ _ (stG gg gq gs gp P (que gq n V L :: F)) _
 refine enterS F_p_gate_Gate_Ready rfl rfl rfl ?_
 refine sw_fact (que_qi (k := 3) rfl) fun hq => ?_
 (refine sw_seq (sw_region ?_))
 refine so_box rfl rfl rfl rfl rfl fun g1 => ?_
 (refine so_1 rfl ?_; refine so_nil (sn_then ?_); (iterate 2 refine sw_seq ?_); refine sw_region ?_; refine so_l 0 rfl rfl rfl ?_)
 refine so_callE rfl rfl rfl ((none_G (F := que gq n V L :: pt g1 t_p_gate_Gate [.pointer (some ⟨gg, 0, none⟩)] :: F)).at (ent_keep 5 [1, 2, 3, 4, 0] rfl rfl) (ent_keep 5 [4, 0, 1, 2, 3] rfl rfl)) ?_
 (refine so_nil (sn_then ?_); refine sw_cond_f rfl ?_; refine sw_skip ?_; refine sn_then ?_; refine sw_seq (sw_region ?_); refine so_l 0 rfl rfl rfl ?_; (iterate 2 refine so_1 rfl ?_); refine so_l 1 rfl rfl rfl ?_)
 refine so_call rfl rfl rfl ((Ripe_Q (F := pt g1 t_p_gate_Gate [.pointer (some ⟨gg, 0, none⟩)] :: stG gg gq gs gp P F)).ent (ent_keep 5 [4, 0, 1, 2, 3] rfl rfl)) ?_
 rintro _ _ ⟨A, c, rfl, rfl⟩
 have hrl : (ripes V L).length ≤ 100000 := by
  have h1 : (ripes V L).length ≤ L.length := by unfold ripes; rw [List.length_map]; exact List.length_filter_le _ _
  have := hq.many; omega
 (refine so_1 rfl ?_)
 refine so_call rfl rfl rfl ((DeleteDot_S (f := n_p_gate_Gate_Ready_1) (pre := []) (post := [.pointer (some ⟨g1, 0, none⟩)]) (p := fun d => !wholeB L (prf P) d) (D := ripes V L) (F := pt g1 t_p_gate_Gate [.pointer (some ⟨gg, 0, none⟩)] :: stG gg gq gs gp P (que gq n V L :: F)) (fun d hd B => by
  refine scB ?_
  exact Ready1_S (F := F ++ B) (ripes_dot hq hd)) hrl).ent (ent_keep 6 [0, 2, 3, 4, 5, 1] rfl rfl)) ?_
 rintro _ _ ⟨rfl, rfl⟩
 (refine so_1 rfl ?_; refine so_nil (sn_then ?_); refine sw_ret ?_)
 have e : (ripes V L).filter (fun e => !!wholeB L (prf P) e) = readyL V L (prf P) := by
  unfold readyL
  congr 1
  funext d
  rw [Bool.not_not]
 rw [e]
 refine sn_ret rfl (.tmp rfl .nil) (ent_keep 6 [0, 2, 3, 4, 5] rfl rfl) ?_
 exact ⟨A, c, rfl, rfl⟩
end

structure Wt where
 d : Int × Int
 id : List Int
 to : Int
def wtC (w : Wt) : List Value := .int .i64 w.d.1 :: .int .i64 w.d.2 :: (u8s w.id ++ [.int .i64 w.to])
theorem wtC_len {w : Wt} (h : w.id.length = 32) : (wtC w).length = 35 := by simp [wtC, h]
theorem wtC_one (w : Wt) : ∀ u ∈ wtC w, u.oneCell' = true := by
 intro u hu
 simp only [wtC, List.mem_cons, List.mem_append, List.mem_map, List.not_mem_nil, or_false] at hu
 rcases hu with rfl | rfl | ⟨_, _, rfl⟩ | rfl <;> rfl
def wantsW (C : CL) (w : Wn) (refs : List (List Int)) : List Wt := (refs.filter fun x => !decide (x ∈ cfm (dotW w) C)).map fun x => ⟨dotW w, x, w.src⟩
def wantsL (L : List Wn) (C : CL) : List Wt := L.flatMap fun w => wantsW C w w.e.refs
theorem wantsL_nW (L : List Wn) (C : CL) : wantsL (L.map nW) C = wantsL L C := by
 unfold wantsL
 rw [List.flatMap_map]
 rfl
theorem wantsL_snoc (l : List Wn) (x : Wn) (C : CL) : wantsL (l ++ [x]) C = wantsL l C ++ wantsW C x x.e.refs := by simp [wantsL]
theorem wantsW_snoc (C : CL) (w : Wn) (l : List (List Int)) (x : List Int) : wantsW C w (l ++ [x]) = wantsW C w l ++ (if x ∈ cfm (dotW w) C then [] else [⟨dotW w, x, w.src⟩]) := by
 unfold wantsW
 rw [List.filter_append, List.map_append]
 congr 1
 by_cases h : x ∈ cfm (dotW w) C <;> simp [h]
theorem wantsL_le {L l1 l2 : List Wn} {x : Wn} {r1 r2 : List (List Int)} (C : CL) (h : L = l1 ++ x :: l2) (hr : x.e.refs = r1 ++ r2) : (wantsL l1 C ++ wantsW C x r1).length ≤ (wantsL L C).length := by
 subst h
 unfold wantsL
 rw [List.flatMap_append, List.flatMap_cons]
 have : wantsW C x x.e.refs = wantsW C x r1 ++ wantsW C x r2 := by rw [hr]; unfold wantsW; rw [List.filter_append, List.map_append]
 rw [this]
 simp only [List.length_append]
 omega
def CK (C : CL) : Prop := ∀ d, (∀ x ∈ cfm d C, idOk x) ∧ (cfm d C).length ≤ 1000000
abbrev rWt (A : Option Addr) (c n : Nat) (W : List Wt) : SP := row t_api_Want 35 (.slice A n c) n (flC wtC W)
section
variable {b : World} {F : List SP} {gg gq gs gp n : Nat} {V : List Int} {L : List Wn} {P : List Pf} {C : CL}
set_option maxRecDepth 20000 in
set_option maxHeartbeats 8000000 in
theorem Wants_G (hC : CK C) (hM : (wantsL L C).length ≤ 60000000) : SC Tryz.prog n_p_gate_Gate_Wants [.pointer (some ⟨gg, 0, none⟩)] b (gat gg gq gs C :: que gq n V L :: F) (fun u F' => ∃ A c, u = .slice A (wantsL L C).length c ∧ F' = rWt A c (wantsL L C).length (wantsL L C) :: gat gg gq gs C :: que gq n V L :: F) := by
 refine SC.opn ?_
 rintro ⟨gp, P⟩ hP
 refine SC.out (R := fun u F' => ∃ A c, u = .slice A (wantsL L C).length c ∧ F' = rWt A c (wantsL L C).length (wantsL L C) :: stG gg gq gs gp P (que gq n V L :: F)) ?_ (by
  rintro u _ ⟨A, c, h1, rfl⟩
  exact ⟨_, ent_cons (ent_pack (G := fun s : Nat × List Pf => stG gg gq gs s.1 s.2 []) (p := fun s => prf s.2 = C) (gp, P) hP), A, c, h1, rfl⟩)
 dsimp only at hP
 subst hP
 show SC _ _ _ _ (stG gg gq gs gp P (que gq n V L :: F)) _
 refine enterS F_p_gate_Gate_Wants rfl rfl rfl ?_
 refine sw_fact (que_qi (k := 3) rfl) fun hq => ?_
 (refine sw_seq (sw_region ?_); refine so_1 rfl ?_; refine so_nil (sn_then ?_); (iterate 2 refine sw_seq ?_); refine sw_region ?_; refine so_1 rfl ?_)
 refine so_callE rfl rfl rfl (none_G (F := que gq n V L :: F)) ?_
 (refine so_nil (sn_then ?_); refine sw_cond_f rfl ?_; refine sw_skip ?_; refine sn_then ?_; (iterate 2 refine sw_seq ?_); refine sw_region ?_; (iterate 3 refine so_1 rfl ?_); refine so_l 0 rfl rfl rfl ?_)
 refine so_call rfl rfl rfl ((Held_Q (F := stG gg gq gs gp P F)).ent (ent_keep 4 [3, 0, 1, 2] rfl rfl)) ?_
 rintro v _ ⟨D, hD, rfl⟩
 refine so_fact (fun w H => (H.oat (k := 0) rfl).form) ?_
 rintro ⟨A0, c0, rfl, _, _, k3⟩
 have hDm := hq.many
 have hDl : D.length = L.length := by rw [← hD, List.length_map]
 have hMD : (wantsL D (prf P)).length ≤ 60000000 := by rw [← wantsL_nW, hD]; exact hM
 have hDe : ∀ x ∈ D, EW x.e ∧ dotOk (dotW x) ∧ x.e.refs.length ≤ 1000000 := fun x hx => by
  have hm : nW x ∈ L := by rw [← hD]; exact List.mem_map.2 ⟨x, hx, rfl⟩
  exact ⟨(hq.ew _ hm).own x.e.dv x.e.rv, (show dotOk (dotW (nW x)) from hq.dotOk hm), (show (nW x).e.refs.length ≤ _ from hq.rf _ hm)⟩
 ((iterate 2 refine so_1 rfl ?_); refine so_nil (sn_then ?_); refine sw_block ?_)
 refine sw_loop (S := Nat × List Wt × Nat × Option Addr × Nat) (fun s => [(0, .pointer (some ⟨gg, 0, none⟩)), (2, .slice s.2.2.2.1 s.2.2.1 s.2.2.2.2), (13, .slice A0 D.length c0), (14, .int .i64 D.length), (15, .int .i64 (s.1 : Int))])
  (fun s => rWt s.2.2.2.1 s.2.2.2.2 s.2.2.1 s.2.1 :: rWs (.slice A0 D.length c0) D :: all (wsF D) :: stG gg gq gs gp P (que gq n V L :: F)) (fun s => s.1 ≤ D.length ∧ s.2.1 = wantsL (D.take s.1) (prf P) ∧ s.2.1.length = s.2.2.1) (fun s => D.length - s.1) (0, [], 0, none, 0) ⟨rfl, rfl, rfl, rfl, rfl, trivial⟩ ?_ ⟨Nat.zero_le _, rfl, rfl⟩ ?_
 ·exact (ent_row_nil t_api_Want 35 rfl).trans (ent_keep 7 [0, 1, 2, 4, 5, 6, 3] rfl rfl)
 rintro ⟨i, W, o, A, c⟩ ⟨hi1, hW, ho⟩
 dsimp only at hi1 hW ho ⊢
 (refine sw_seq (sw_region ?_); refine so_1 rfl ?_; refine so_nil (sn_then ?_); refine sw_seq ?_)
 refine sw_if rfl (fun h1 => ?_) (fun h1 => ?_)
 ·have h1' : i < D.length := by omega
  obtain ⟨gD, oD, rfl⟩ := k3 (by omega)
  have hsp : D = D.take i ++ D[i] :: D.drop (i + 1) := by rw [← List.drop_eq_getElem_cons h1', List.take_append_drop]
  have hmem := List.getElem_mem h1'
  have fx := flC_seg (f := waC) (fun a ha => wsC_len (hDe a ha).1.l32) h1'
  have hsn : wantsL (D.take (i + 1)) (prf P) = W ++ wantsW (prf P) D[i] D[i].e.refs := by rw [List.take_succ_eq_append_getElem h1', wantsL_snoc, hW]
  generalize D[i] = x at *
  obtain ⟨hew, hdk, hrl⟩ := hDe x hmem
  have hx32 := hew.l32
  have xl := wsC_len (s := x.src) hx32
  (refine sw_skip ?_; refine sn_then ?_; refine sw_seq ?_; refine sw_block ?_; refine sw_seq (sw_region ?_); refine so_2 rfl (by omega) ?_)
  refine so_ldrow 1 (i * 40) rfl rfl rfl rfl rfl rfl rfl (by rw [mulz_eq, Int.toNat_natCast]) (by omega) fx (by rw [xl]; rfl) ?_
  refine so_fact (fun w H => sl_form (wsF_er (k := 2) rfl hmem w H).rv) ?_
  rintro ⟨A1, c1, hrv, _, _, _, q3, _⟩
  refine so_fact (fun w H => (wsF_er (k := 2) rfl hmem w H).dv.form) ?_
  rintro ⟨A2, c2, hdv, _⟩
  refine so_new rfl rfl rfl rfl rfl fun g4 => ?_
  refine so_stW 0 rfl rfl rfl rfl rfl rfl rfl xl (wsC_one (by rw [hdv]; rfl) (by rw [hrv]; rfl)) (by rw [xl]; rfl) ?_
  (refine so_nil (sn_then ?_); refine sw_seq (sw_region ?_); (iterate 2 refine so_1 rfl ?_))
  refine so_ld 0 rfl rfl rfl rfl rfl rfl ((wsC_rv hx32).trans (congrArg some hrv)) rfl ?_
  ((iterate 2 refine so_1 rfl ?_); refine so_nil (sn_then ?_); refine sw_block ?_)
  refine sw_loop (S := Nat × List Wt × Nat × Option Addr × Nat) (fun s => [(0, .pointer (some ⟨gg, 0, none⟩)), (2, .slice s.2.2.2.1 s.2.2.1 s.2.2.2.2), (4, .pointer (some ⟨g4, 0, none⟩)), (13, .slice (some ⟨gD, oD, none⟩) D.length c0), (14, .int .i64 D.length), (15, .int .i64 (i : Int)), (21, .slice A1 x.e.refs.length c1), (22, .int .i64 x.e.refs.length), (23, .int .i64 (s.1 : Int))])
   (fun s => rWt s.2.2.2.1 s.2.2.2.2 s.2.2.1 s.2.1 :: pt g4 t_api_Waiting (wsC x.e x.src) :: rWs (.slice (some ⟨gD, oD, none⟩) D.length c0) D :: all (wsF D) :: stG gg gq gs gp P (que gq n V L :: F)) (fun s => s.1 ≤ x.e.refs.length ∧ s.2.1 = W ++ wantsW (prf P) x (x.e.refs.take s.1) ∧ s.2.1.length = s.2.2.1) (fun s => x.e.refs.length - s.1) (0, W, o, A, c) ⟨rfl, rfl, rfl, rfl, rfl, rfl, rfl, rfl, rfl, trivial⟩ (ent_keep 2 [1, 0] rfl rfl) ⟨Nat.zero_le _, by simp [wantsW], ho⟩ ?_
  rintro ⟨k, W', o', A', c'⟩ ⟨hk1, hW', ho'⟩
  dsimp only at hk1 hW' ho' ⊢
  (refine sw_seq (sw_region ?_); refine so_1 rfl ?_; refine so_nil (sn_then ?_); refine sw_seq ?_)
  refine sw_if rfl (fun h2 => ?_) (fun h2 => ?_)
  ·have h2' : k < x.e.refs.length := by omega
   obtain ⟨gR, oR, rfl⟩ := q3 (by omega)
   have ca := id_cells (l := x.e.refs) (gA := gR) (oA := oR) (c := c1) (b := b) (F := rWt A' c' o' W' :: pt g4 t_api_Waiting (wsC x.e x.src) :: rWs (.slice (some ⟨gD, oD, none⟩) D.length c0) D :: all (wsF D) :: stG gg gq gs gp P (que gq n V L :: F)) (fun w H => by rw [← hrv]; exact (wsF_er (k := 3) rfl hmem w H).rv) hew.r32 h2'
   have hy := hew.r32 _ (List.getElem_mem h2')
   have htk : x.e.refs.take (k + 1) = x.e.refs.take k ++ [x.e.refs[k]] := List.take_succ_eq_append_getElem h2'
   have hrs : x.e.refs = x.e.refs.take (k + 1) ++ x.e.refs.drop (k + 1) := (List.take_append_drop _ _).symm
   generalize x.e.refs[k] = y at ca hy htk
   (refine sw_skip ?_; refine sn_then ?_; refine sw_seq ?_; refine sw_block ?_; refine sw_seq (sw_region ?_); refine so_2 rfl (by omega) ?_)
   refine so_rd rfl (fun w H => ex_loadN (cs := u8s y) rfl rfl rfl (by rw [u8s_len, hy]; rfl) (fun j hj => by rw [mulz_eq, Int.toNat_natCast]; exact ca w H j (by rw [u8s_len, hy] at hj; exact hj))) rfl ?_
   refine so_new rfl rfl rfl rfl rfl fun g6 => ?_
   refine so_stW 0 rfl rfl rfl rfl rfl rfl rfl (by rw [u8s_len, hy]; rfl) (u8s_one y) (by rw [u8s_len, hy]; rfl) ?_
   (refine so_nil (sn_then ?_); refine sw_seq ?_)
   refine sw_fact (fun w H => by exact prf_at (l := P) (dotW x) (k := 7) H rfl) ?_
   rintro ⟨A3, c3, hat⟩
   refine sw_draw flo (pt g6 t_api_ID (u8s y) :: pt g4 t_api_Waiting (wsC x.e x.src) :: pt gg t_gate_Gate (gtC gq gs gp) :: mpG gp P :: F) (by decide +kernel) (ent_keep 9 [0, 2, 5, 6] rfl rfl) ?_
   ((iterate 3 refine sd_1 rfl (.inl rfl) ?_); refine sd_l 2 rfl rfl rfl rfl ?_; (iterate 2 refine sd_1 rfl (.inl rfl) ?_); refine sd_l 1 rfl rfl rfl rfl ?_)
   refine sd_lookN 3 dotMK hdk hat rfl rfl rfl rfl rfl rfl rfl rfl rfl ?_
   refine sd_pu rfl (pu_fld rfl rfl rfl rfl rfl rfl rfl) rfl rfl ?_
   skip
   refine sd_ldA 0 rfl rfl rfl rfl rfl rfl (segID hy) rfl rfl ?_
   refine sd_callE rfl rfl rfl rfl (ContainsID_S (prf_sl hat (k := 7) rfl) (fun a ha => ((hC _).1 a ha).1) hy (hC _).2) (ent_keep 9 [0, 2, 5, 6] rfl rfl) ?_
   (refine sd_1 rfl (.inl rfl) ?_)
   refine sd_nil ?_
   by_cases hin : y ∈ cfm (dotW x) (prf P)
   ·refine sn_then (sw_know 38 (.bool false) rfl (congrArg Value.bool (by rw [decide_eq_true hin]; rfl)) ?_)
    (refine sw_cond_f rfl ?_; refine sw_skip ?_; refine sn_block ?_; refine sn_then ?_; refine sw_region ?_; refine so_2 rfl (by (unfold I64; omega)) ?_; refine so_1 rfl ?_; refine so_nil ?_)
    refine sn_round (k + 1, W', o', A', c') ⟨rfl, rfl, rfl, rfl, rfl, rfl, rfl, rfl, rfl, trivial⟩ (ent_keep 1 [] rfl rfl) ⟨h2', by dsimp only; rw [htk, wantsW_snoc, if_pos hin, List.append_nil]; exact hW', ho'⟩ (by dsimp only; omega)
   ·refine sn_then (sw_know 38 (.bool true) rfl (congrArg Value.bool (by rw [decide_eq_false hin]; rfl)) ?_)
    have hnew : W ++ wantsW (prf P) x (x.e.refs.take (k + 1)) = W' ++ [⟨dotW x, y, x.src⟩] := by rw [htk, wantsW_snoc, if_neg hin, ← List.append_assoc, ← hW']
    have hcap : o' + 1 ≤ 60000000 := by
     have h3 := wantsL_le (prf P) hsp hrs
     rw [← hW, hnew, List.length_append, List.length_singleton] at h3
     omega
    (refine sw_cond_t rfl ?_; refine sw_region ?_; (iterate 3 refine so_1 rfl ?_); refine so_l 2 rfl rfl rfl ?_)
    refine so_ldA 0 rfl rfl rfl rfl rfl rfl (segID hy) rfl ?_
    (refine so_1 rfl ?_)
    refine so_ld 2 rfl rfl rfl rfl rfl rfl (wsC_src hx32) rfl ?_
    skip
    refine so_B rfl rfl rfl ⟨rfl, (by show (u8s y).length = 32; rw [u8s_len, hy]), rfl, trivial⟩ ?_
    refine so_lit1 (cs := wtC ⟨dotW x, y, x.src⟩) rfl rfl rfl rfl rfl rfl rfl (wtC_len hy) (by decide) fun gl => ?_
    refine so_append 2 rfl rfl rfl rfl rfl rfl rfl rfl rfl (m := 1) (news := wtC ⟨dotW x, y, x.src⟩) (fun w H => (H.blk (k := 0) rfl).sl (by rw [wtC_len hy]) (by decide)) (wtC_one _) (by omega) (fun _ => rfl) fun v2 => ?_
    refine so_fact (fun w H => (H.oat (k := 2) rfl).form) ?_
    rintro ⟨A5, c5, rfl, _, _, _⟩
    (refine so_1 rfl ?_; refine so_nil ?_; refine sn_block ?_; refine sn_then ?_; refine sw_region ?_; refine so_2 rfl (by (unfold I64; omega)) ?_; refine so_1 rfl ?_; refine so_nil ?_)
    have e1 : flC wtC W' ++ wtC ⟨dotW x, y, x.src⟩ = flC wtC (W' ++ [⟨dotW x, y, x.src⟩]) := by simp only [flC_app, flC, List.append_nil]
    rw [e1]
    refine sn_round (k + 1, W' ++ [⟨dotW x, y, x.src⟩], o' + 1, A5, c5) ⟨rfl, rfl, rfl, rfl, rfl, rfl, rfl, rfl, rfl, trivial⟩ (ent_keep 3 [2] rfl rfl) ⟨h2', hnew.symm, by dsimp only; rw [List.length_append, ho']; rfl⟩ (by dsimp only; omega)
  ·(refine sw_exit ?_; refine sn_then_exit ?_; refine sn_loop_exit ?_; refine sn_block_exit ?_; refine sn_block ?_; refine sn_then ?_; refine sw_region ?_; refine so_2 rfl (by (unfold I64; omega)) ?_; refine so_1 rfl ?_; refine so_nil ?_)
   obtain rfl : k = x.e.refs.length := by omega
   rw [List.take_length] at hW'
   refine sn_round (i + 1, W', o', A', c') ⟨rfl, rfl, rfl, rfl, rfl, trivial⟩ (ent_keep 2 [0] rfl rfl) ⟨h1', by dsimp only; rw [hsn]; exact hW', ho'⟩ (by dsimp only; omega)
 ·(refine sw_exit ?_; refine sn_then_exit ?_; refine sn_loop_exit ?_; refine sn_block_exit ?_; refine sn_then ?_; refine sw_seq (sw_region ?_); (iterate 2 refine so_1 rfl ?_); refine so_nil (sn_then ?_); refine sw_ret ?_)
  obtain rfl : i = D.length := by omega
  rw [List.take_length, ← wantsL_nW, hD] at hW
  subst hW
  subst ho
  refine sn_ret rfl (.tmp rfl .nil) (ent_keep 7 [0, 3, 4, 5, 6] rfl rfl) ?_
  exact ⟨A, c, rfl, rfl⟩
end

def cfC (e : Pf) : List Value := [.int .i64 e.d.1, .int .i64 e.d.2, e.v]
abbrev rCn (A : Option Addr) (c n : Nat) (l : List Pf) : SP := row t_api_Confirmed 3 (.slice A n c) n (flC cfC l)
def stateL (L : List Wn) (C : CL) : CL := (L.filter fun w => hasC (dotW w) C).map fun w => (dotW w, cfm (dotW w) C)
theorem stateL_snoc (l : List Wn) (x : Wn) (C : CL) : stateL (l ++ [x]) C = stateL l C ++ (if hasC (dotW x) C = true then [(dotW x, cfm (dotW x) C)] else []) := by
 unfold stateL
 rw [List.filter_append, List.map_append]
 congr 1
 by_cases h : hasC (dotW x) C = true <;> simp [h]
theorem stateL_nW (L : List Wn) (C : CL) : stateL (L.map nW) C = stateL L C := by
 unfold stateL
 rw [List.filter_map, List.map_map]
 rfl
theorem hasC_p (d : Int × Int) (l : List Pf) : hasC d (prf l) = (findP d l).isSome := by
 induction l with
 | nil => rfl
 | cons e l ih =>
  show (decide (e.d = d) || hasC d (prf l)) = _
  simp only [findP]
  split
  ·rename_i h; rw [decide_eq_true h]; rfl
  ·rename_i h; rw [decide_eq_false h]; exact ih
theorem pF_app (a c : List Pf) : pF (a ++ c) = pF a ++ pF c := by
 induction a with
 | nil => rfl
 | cons x a ih => simp only [List.cons_append, pF, ih]
theorem pF_snoc {a : List Pf} {x : Pf} : (pF (a ++ [x])).Perm ([rD x.v x.ids] ++ pF a) := by
 rw [pF_app]
 exact List.perm_append_comm
section
variable {b : World} {F : List SP} {gg gq gs gp n : Nat} {V : List Int} {L : List Wn} {P : List Pf} {C : CL}
set_option maxRecDepth 20000 in
set_option maxHeartbeats 8000000 in
theorem State_G (hC : CK C) : SC Tryz.prog n_p_gate_Gate_State [.pointer (some ⟨gg, 0, none⟩)] b (gat gg gq gs C :: que gq n V L :: F) (fun u F' => ∃ A c T, prf T = stateL L C ∧ u = .slice A T.length c ∧ F' = rCn A c T.length T :: all (pF T) :: gat gg gq gs C :: que gq n V L :: F) := by
 refine SC.opn ?_
 rintro ⟨gp, P⟩ hP
 refine SC.out (R := fun u F' => ∃ A c T, prf T = stateL L C ∧ u = .slice A T.length c ∧ F' = rCn A c T.length T :: all (pF T) :: stG gg gq gs gp P (que gq n V L :: F)) ?_ (by
  rintro u _ ⟨A, c, T, h1, h2, rfl⟩
  exact ⟨_, ent_cons (ent_cons (ent_pack (G := fun s : Nat × List Pf => stG gg gq gs s.1 s.2 []) (p := fun s => prf s.2 = C) (gp, P) hP)), A, c, T, h1, h2, rfl⟩)
 dsimp only at hP
 subst hP
 show SC _ _ _ _ (stG gg gq gs gp P (que gq n V L :: F)) _
 refine enterS F_p_gate_Gate_State rfl rfl rfl ?_
 refine sw_fact (que_qi (k := 3) rfl) fun hq => ?_
 (refine sw_seq (sw_region ?_); refine so_1 rfl ?_; refine so_nil (sn_then ?_); (iterate 2 refine sw_seq ?_); refine sw_region ?_; refine so_1 rfl ?_)
 refine so_callE rfl rfl rfl (none_G (F := que gq n V L :: F)) ?_
 (refine so_nil (sn_then ?_); refine sw_cond_f rfl ?_; refine sw_skip ?_; refine sn_then ?_; (iterate 2 refine sw_seq ?_); refine sw_region ?_; (iterate 3 refine so_1 rfl ?_); refine so_l 0 rfl rfl rfl ?_)
 refine so_call rfl rfl rfl ((Held_Q (F := stG gg gq gs gp P F)).ent (ent_keep 4 [3, 0, 1, 2] rfl rfl)) ?_
 rintro v _ ⟨D, hD, rfl⟩
 refine so_fact (fun w H => (H.oat (k := 0) rfl).form) ?_
 rintro ⟨A0, c0, rfl, _, _, k3⟩
 have hDm := hq.many
 have hDl : D.length = L.length := by rw [← hD, List.length_map]
 have hDe : ∀ x ∈ D, EW x.e ∧ dotOk (dotW x) ∧ x.e.refs.length ≤ 1000000 := fun x hx => by
  have hm : nW x ∈ L := by rw [← hD]; exact List.mem_map.2 ⟨x, hx, rfl⟩
  exact ⟨(hq.ew _ hm).own x.e.dv x.e.rv, (show dotOk (dotW (nW x)) from hq.dotOk hm), (show (nW x).e.refs.length ≤ _ from hq.rf _ hm)⟩
 ((iterate 2 refine so_1 rfl ?_); refine so_nil (sn_then ?_); refine sw_block ?_)
 refine sw_loop (S := Nat × List Pf × Nat × Option Addr × Nat) (fun s => [(0, .pointer (some ⟨gg, 0, none⟩)), (2, .slice s.2.2.2.1 s.2.2.1 s.2.2.2.2), (13, .slice A0 D.length c0), (14, .int .i64 D.length), (15, .int .i64 (s.1 : Int))])
  (fun s => rCn s.2.2.2.1 s.2.2.2.2 s.2.2.1 s.2.1 :: all (pF s.2.1) :: rWs (.slice A0 D.length c0) D :: all (wsF D) :: stG gg gq gs gp P (que gq n V L :: F)) (fun s => s.1 ≤ D.length ∧ prf s.2.1 = stateL (D.take s.1) (prf P) ∧ s.2.1.length = s.2.2.1 ∧ s.2.2.1 ≤ s.1) (fun s => D.length - s.1) (0, [], 0, none, 0) ⟨rfl, rfl, rfl, rfl, rfl, trivial⟩ ?_ ⟨Nat.zero_le _, rfl, rfl, Nat.le_refl _⟩ ?_
 ·exact ((ent_close (G := [])).trans (ent_row_nil t_api_Confirmed 3 rfl)).trans (ent_keep 8 [0, 1, 2, 3, 5, 6, 7, 4] rfl rfl)
 rintro ⟨i, T, o, A, c⟩ ⟨hi1, hT, ho, hoi⟩
 dsimp only at hi1 hT ho hoi ⊢
 (refine sw_seq (sw_region ?_); refine so_1 rfl ?_; refine so_nil (sn_then ?_); refine sw_seq ?_)
 refine sw_if rfl (fun h1 => ?_) (fun h1 => ?_)
 ·have h1' : i < D.length := by omega
  obtain ⟨gD, oD, rfl⟩ := k3 (by omega)
  have hmem := List.getElem_mem h1'
  have fx := flC_seg (f := waC) (fun a ha => wsC_len (hDe a ha).1.l32) h1'
  have hsn : stateL (D.take (i + 1)) (prf P) = prf T ++ (if hasC (dotW D[i]) (prf P) = true then [(dotW D[i], cfm (dotW D[i]) (prf P))] else []) := by rw [List.take_succ_eq_append_getElem h1', stateL_snoc, hT]
  generalize D[i] = x at *
  obtain ⟨hew, hdk, hrl⟩ := hDe x hmem
  have hx32 := hew.l32
  have xl := wsC_len (s := x.src) hx32
  (refine sw_skip ?_; refine sn_then ?_; refine sw_seq ?_; refine sw_block ?_; refine sw_seq (sw_region ?_); refine so_2 rfl (by omega) ?_)
  refine so_ldrow 2 (i * 40) rfl rfl rfl rfl rfl rfl rfl (by rw [mulz_eq, Int.toNat_natCast]) (by omega) fx (by rw [xl]; rfl) ?_
  refine so_fact (fun w H => sl_form (wsF_er (k := 3) rfl hmem w H).rv) ?_
  rintro ⟨A1, c1, hrv, _⟩
  refine so_fact (fun w H => (wsF_er (k := 3) rfl hmem w H).dv.form) ?_
  rintro ⟨A2, c2, hdv, _⟩
  refine so_new rfl rfl rfl rfl rfl fun g4 => ?_
  refine so_stW 0 rfl rfl rfl rfl rfl rfl rfl xl (wsC_one (by rw [hdv]; rfl) (by rw [hrv]; rfl)) (by rw [xl]; rfl) ?_
  (refine so_nil (sn_then ?_); refine sw_seq ?_)
  refine sw_draw flo (pt g4 t_api_Waiting (wsC x.e x.src) :: pt gg t_gate_Gate (gtC gq gs gp) :: mpG gp P :: F) (by decide +kernel) (ent_keep 9 [0, 5, 6] rfl rfl) ?_
  ((iterate 3 refine sd_1 rfl (.inl rfl) ?_); refine sd_l 1 rfl rfl rfl rfl ?_; (iterate 2 refine sd_1 rfl (.inl rfl) ?_); refine sd_l 0 rfl rfl rfl rfl ?_)
  rw [hasC_p] at hsn
  cases hf : findP (dotW x) P with
  | none =>
   have hg : getM (dotW x) (pM P) = none := by rw [getM_p, hf]; rfl
   refine sd_look0 2 dotMK hdk hg rfl rfl rfl rfl rfl rfl rfl rfl rfl ?_
   ((iterate 3 refine sd_1 rfl (.inl rfl) ?_))
   refine sd_new rfl rfl rfl rfl rfl rfl (ent_keep 9 [0, 5, 6] rfl rfl) fun g5 => ?_
   skip
   refine sd_stW (vs := [.slice none 0 0]) 0 rfl rfl rfl rfl rfl rfl rfl rfl rfl (by decide) rfl (ent_keep 10 [1, 6, 7] rfl rfl) ?_
   (refine sd_1 rfl (.inl rfl) ?_)
   refine sd_nil ?_
   rw [hf] at hsn
   (refine sn_then ?_; refine sw_seq (sw_region ?_); refine so_1 rfl ?_; refine so_nil (sn_then ?_); refine sw_cond_f rfl ?_; refine sw_skip ?_; refine sn_block ?_; refine sn_then ?_; refine sw_region ?_; refine so_2 rfl (by (unfold I64; omega)) ?_; refine so_1 rfl ?_; refine so_nil ?_)
   refine sn_round (i + 1, T, o, A, c) ⟨rfl, rfl, rfl, rfl, rfl, trivial⟩ (ent_keep 2 [] rfl rfl) ⟨h1', by dsimp only; rw [hsn]; simp, ho, by dsimp only; omega⟩ (by dsimp only; omega)
  | some e =>
   have hg : getM (dotW x) (pM P) = some (.agg ⟨[e.v]⟩) := by rw [getM_p, hf]; rfl
   refine sd_look1 2 dotMK hdk hg rfl rfl rfl rfl rfl rfl rfl rfl rfl ?_
   ((iterate 3 refine sd_1 rfl (.inl rfl) ?_))
   refine sd_new rfl rfl rfl rfl rfl rfl (ent_keep 9 [0, 5, 6] rfl rfl) fun g5 => ?_
   skip
   have hee := findP_mem hf
   refine sd_fact (fun w H => by exact sl_form (pF_row (k := 8) rfl hee.1 w H)) ?_
   rintro ⟨A3, c3, hev, _⟩
   refine sd_stW (vs := [e.v]) 0 rfl rfl rfl rfl rfl rfl rfl rfl rfl (by rw [hev]; simp [Value.oneCell']) rfl (ent_keep 10 [1, 6, 7] rfl rfl) ?_
   (refine sd_1 rfl (.inl rfl) ?_)
   refine sd_nil ?_
   rw [hf, if_pos (show (some e).isSome = true from rfl), cfm_p, hf] at hsn
   (refine sn_then ?_; refine sw_seq (sw_region ?_); refine so_1 rfl ?_; refine so_nil (sn_then ?_); refine sw_cond_t rfl ?_)
   refine sw_draw flo (pt g5 t_gate_proof [e.v] :: pt g4 t_api_Waiting (wsC x.e x.src) :: F) (by decide +kernel) (ent_keep 10 [0, 1] rfl rfl) ?_
   ((iterate 3 refine sd_1 rfl (.inl rfl) ?_); refine sd_l 1 rfl rfl rfl rfl ?_; refine sd_1 rfl (.inl rfl) ?_; refine sd_l 0 rfl rfl rfl rfl ?_)
   refine sd_call rfl rfl rfl rfl (Clone_ids (pF_row (k := 8) rfl hee.1) (by have := (hC (dotW x)).2; rw [cfm_p, hf] at this; exact this)) ?_
   rintro v6 _ rfl
   refine ⟨ent_keep 11 [1, 2] rfl rfl, ?_⟩
   refine sd_fact (fun w H => (H.oat (k := 0) rfl).form) ?_
   rintro ⟨A6, c6, rfl, _, _, _⟩
   (refine sd_1 rfl (.inl rfl) ?_)
   refine sd_lit1 (cs := cfC ⟨dotW x, e.ids, .slice A6 e.ids.length c6⟩) rfl rfl rfl rfl rfl rfl rfl rfl rfl (by decide) (ent_keep 11 [1, 2] rfl rfl) fun gl => ?_
   refine sd_append 4 rfl rfl rfl rfl rfl rfl rfl rfl rfl rfl (m := 1) (news := cfC ⟨dotW x, e.ids, .slice A6 e.ids.length c6⟩) (fun w H => (H.blk (k := 0) rfl).sl rfl (by decide)) (by simp [cfC, Value.oneCell']) (by omega) (fun _ => rfl) (fun _ => ent_keep 12 [2, 3] rfl rfl) fun v7 => ?_
   refine sd_fact (fun w H => (H.oat (k := 4) rfl).form) ?_
   rintro ⟨A7, c7, rfl, _, _, _⟩
   (refine sd_1 rfl (.inl rfl) ?_)
   refine sd_nil ?_
   (refine sn_block ?_; refine sn_then ?_; refine sw_region ?_; refine so_2 rfl (by (unfold I64; omega)) ?_; refine so_1 rfl ?_; refine so_nil ?_)
   have e1 : flC cfC T ++ cfC ⟨dotW x, e.ids, .slice A6 e.ids.length c6⟩ = flC cfC (T ++ [⟨dotW x, e.ids, .slice A6 e.ids.length c6⟩]) := by simp only [flC_app, flC, List.append_nil]
   rw [e1]
   refine sn_ent (G := [rD (.slice A6 e.ids.length c6) e.ids] ++ (all (pF T) :: rCn A7 c7 (o + 1) (T ++ [⟨dotW x, e.ids, .slice A6 e.ids.length c6⟩]) :: rWs (.slice (some ⟨gD, oD, none⟩) D.length c0) D :: all (wsF D) :: stG gg gq gs gp P (que gq n V L :: F))) (ent_keep 6 [1, 5, 4] rfl rfl) ?_
   refine sn_ent (ent_in (A := pF (T ++ [⟨dotW x, e.ids, .slice A6 e.ids.length c6⟩])) pF_snoc) ?_
   refine sn_round (i + 1, T ++ [⟨dotW x, e.ids, .slice A6 e.ids.length c6⟩], o + 1, A7, c7) ⟨rfl, rfl, rfl, rfl, rfl, trivial⟩ (ent_keep 2 [1, 0] rfl rfl) ⟨h1', by dsimp only; rw [hsn, prf, List.map_append]; rfl, by dsimp only; rw [List.length_append, ho]; rfl, by dsimp only; omega⟩ (by dsimp only; omega)
 ·(refine sw_exit ?_; refine sn_then_exit ?_; refine sn_loop_exit ?_; refine sn_block_exit ?_; refine sn_then ?_; refine sw_seq (sw_region ?_); (iterate 2 refine so_1 rfl ?_); refine so_nil (sn_then ?_); refine sw_ret ?_)
  obtain rfl : i = D.length := by omega
  rw [List.take_length, ← stateL_nW, hD] at hT
  subst ho
  refine sn_ret rfl (.tmp rfl .nil) (ent_keep 8 [0, 1, 4, 5, 6, 7] rfl rfl) ?_
  exact ⟨A, c, T, hT, rfl, rfl⟩
end

def delP (d : Int × Int) : List Pf → List Pf
 | [] => []
 | e :: l => if e.d = d then l else e :: delP d l
theorem delM_p (d : Int × Int) (l : List Pf) : delM d (pM l) = pM (delP d l) := by
 induction l with
 | nil => rfl
 | cons e l ih =>
  simp only [pM, delM, delP]
  split
  ·rfl
  ·simp only [pM, ih]
theorem delC_p (d : Int × Int) (l : List Pf) : delC d (prf l) = prf (delP d l) := by
 induction l with
 | nil => rfl
 | cons e l ih =>
  show (if e.d = d then prf l else (e.d, e.ids) :: delC d (prf l)) = _
  simp only [delP]
  split
  ·rfl
  ·rw [ih]; rfl
theorem pF_del (d : Int × Int) (l : List Pf) : ∃ B, (pF l).Perm (B ++ pF (delP d l)) := by
 induction l with
 | nil => exact ⟨[], .refl _⟩
 | cons e l ih =>
  simp only [delP]
  split
  ·exact ⟨[rD e.v e.ids], .refl _⟩
  ·obtain ⟨B, hB⟩ := ih
   exact ⟨B, (hB.cons (rD e.v e.ids)).trans List.perm_middle.symm⟩
theorem ent_delP (d : Int × Int) (l : List Pf) {F : List SP} : Ent (all (pF l) :: F) (all (pF (delP d l)) :: F) := by
 obtain ⟨B, hB⟩ := pF_del d l
 exact (ent_out hB).trans (ent_post B)
theorem ripes_mem {n : Nat} {V : List Int} {L : List Wn} (hq : QI n V L) {d : Int × Int} (h : d ∈ ripes V L) : ∃ x, findW d L = some x ∧ leqL x.e.deps V = true ∧ dotW x = d := by
 unfold ripes at h
 obtain ⟨w, hw, rfl⟩ := List.mem_map.1 h
 obtain ⟨h1, h2⟩ := List.mem_filter.1 hw
 exact ⟨w, findW_of hq.nd h1 rfl, h2, rfl⟩
def evAt (d : Int × Int) (L : List Wn) : Ev := match findW d L with
 | some x => nE x.e
 | none => nE ev0
def dlv : Nat → List Int → List Wn → CL → List Ev × List Int × List Wn × CL
 | 0, V, L, C => ([], V, L, C)
 | k + 1, V, L, C => match readyL V L C with
  | [] => ([], V, L, C)
  | d :: _ => let r := dlv k (advV V d.1 d.2) (delW d L) (delC d C); (evAt d L :: r.1, r.2)
def dlvG (V : List Int) (L : List Wn) (C : CL) : List Ev × List Int × List Wn × CL := dlv L.length V L C
theorem dlv_stop {V : List Int} {L : List Wn} {C : CL} (h : readyL V L C = []) (k : Nat) : dlv k V L C = ([], V, L, C) := by
 cases k with
 | zero => rfl
 | succ k => simp only [dlv, h]
theorem dlv_go {V : List Int} {L : List Wn} {C : CL} {d : Int × Int} {l : List (Int × Int)} (h : readyL V L C = d :: l) (k : Nat) : dlv (k + 1) V L C = (evAt d L :: (dlv k (advV V d.1 d.2) (delW d L) (delC d C)).1, (dlv k (advV V d.1 d.2) (delW d L) (delC d C)).2) := by
 simp only [dlv, h]
theorem delW_lt {d : Int × Int} {L : List Wn} {x : Wn} (h : findW d L = some x) : (delW d L).length < L.length := by
 obtain ⟨h1, h2⟩ := findW_some h
 unfold delW
 rw [List.length_filter_lt_length_iff_exists]
 exact ⟨x, h1, by simp [h2]⟩
theorem ready_head {V : List Int} {L : List Wn} {C : CL} {A T : List (Int × Int)} {d : Int × Int} (h : ripes V L = A ++ d :: T) (hA : ∀ e ∈ A, wholeB L C e = false) (hd : wholeB L C d = true) : readyL V L C = d :: T.filter (wholeB L C) := by
 unfold readyL
 rw [h, List.filter_append, List.filter_cons, if_pos hd, List.filter_eq_nil_iff.2 (fun e he => by rw [hA e he]; decide)]; rfl
theorem ready_nil {V : List Int} {L : List Wn} {C : CL} (h : ∀ e ∈ ripes V L, wholeB L C e = false) : readyL V L C = [] := by
 unfold readyL
 exact List.filter_eq_nil_iff.2 (fun e he => by rw [h e he]; decide)

structure Dst where
 D : List Ev
 V : List Int
 L : List Wn
 P : List Pf
 k : Nat
 o : Nat
 A : Option Addr
 c : Nat
section
variable {b : World} {F : List SP} {gg gq gs gp n : Nat} {V : List Int} {L : List Wn} {P : List Pf} {C : CL}
set_option maxRecDepth 20000 in
set_option maxHeartbeats 8000000 in
theorem Deliver_G : SC Tryz.prog n_p_gate_Gate_Deliver [.pointer (some ⟨gg, 0, none⟩)] b (gat gg gq gs C :: que gq n V L :: F) (fun u F' => ∃ A c D, D.map nE = (dlvG V L C).1 ∧ u = .slice A D.length c ∧ F' = rEn A c D.length D :: all (evF D) :: gat gg gq gs (dlvG V L C).2.2.2 :: que gq n (dlvG V L C).2.1 (dlvG V L C).2.2.1 :: F) := by
 refine SC.opn ?_
 rintro ⟨gp, P⟩ hP
 refine SC.out (R := fun u F' => ∃ A c D P', D.map nE = (dlvG V L C).1 ∧ prf P' = (dlvG V L C).2.2.2 ∧ u = .slice A D.length c ∧ F' = rEn A c D.length D :: all (evF D) :: stG gg gq gs gp P' (que gq n (dlvG V L C).2.1 (dlvG V L C).2.2.1 :: F)) ?_ (by
  rintro u _ ⟨A, c, D, P', h1, h2, h3, rfl⟩
  exact ⟨_, ent_cons (ent_cons (ent_pack (G := fun s : Nat × List Pf => stG gg gq gs s.1 s.2 []) (p := fun s => prf s.2 = (dlvG V L C).2.2.2) (gp, P') h2)), A, c, D, h1, h3, rfl⟩)
 dsimp only at hP
 subst hP
 show SC _ _ _ _ (stG gg gq gs gp P (que gq n V L :: F)) _
 refine enterS F_p_gate_Gate_Deliver rfl rfl rfl ?_
 refine sw_fact (que_qi (k := 3) rfl) fun hq => ?_
 (refine sw_seq (sw_region ?_); refine so_1 rfl ?_; refine so_nil (sn_then ?_); (iterate 2 refine sw_seq ?_); refine sw_region ?_; refine so_1 rfl ?_)
 refine so_callE rfl rfl rfl (none_G (F := que gq n V L :: F)) ?_
 (refine so_nil (sn_then ?_); refine sw_cond_f rfl ?_; refine sw_skip ?_; refine sn_then ?_; refine sw_block ?_)
 refine sw_loop (S := Dst) (fun s => [(0, .pointer (some ⟨gg, 0, none⟩)), (2, .slice s.A s.o s.c)])
  (fun s => rEn s.A s.c s.o s.D :: all (evF s.D) :: stG gg gq gs gp s.P (que gq n s.V s.L :: F)) (fun s => s.L.length ≤ s.k ∧ s.D.length = s.o ∧ s.o + s.L.length ≤ L.length ∧ QI n s.V s.L ∧ s.D.map nE ++ (dlv s.k s.V s.L (prf s.P)).1 = (dlvG V L (prf P)).1 ∧ (dlv s.k s.V s.L (prf s.P)).2 = (dlvG V L (prf P)).2) (fun s => s.L.length) ⟨[], V, L, P, L.length, 0, none, 0⟩ ⟨rfl, rfl, trivial⟩ ?_ ⟨Nat.le_refl _, rfl, by dsimp only; omega, hq, rfl, rfl⟩ ?_
 ·exact (ent_close (G := [])).trans (ent_row_nil t_api_Event 39 rfl)
 rintro ⟨D, V1, L1, P1, k, o, A, c⟩ ⟨hk, ho, hoL, hq1, hD1, hD2⟩
 dsimp only at hk ho hoL hq1 hD1 hD2 ⊢
 (refine sw_block ?_; refine sw_seq (sw_region ?_); (iterate 3 refine so_1 rfl ?_); refine so_l 2 rfl rfl rfl ?_)
 refine so_call rfl rfl rfl ((Ripe_Q (gq := gq) (n := n) (V := V1) (L := L1) (F := rEn A c o D :: all (evF D) :: stG gg gq gs gp P1 F)).ent (ent_keep 6 [5, 0, 1, 2, 3, 4] rfl rfl)) ?_
 rintro _ _ ⟨A0, c0, rfl, rfl⟩
 have hrl : (ripes V1 L1).length ≤ 100000 := by
  have h1 : (ripes V1 L1).length ≤ L1.length := by unfold ripes; rw [List.length_map]; exact List.length_filter_le _ _
  have := hq1.many; omega
 (refine so_1 rfl ?_; refine so_nil (sn_then ?_); refine sw_seq (sw_region ?_); (iterate 3 refine so_1 rfl ?_))
 refine so_call rfl rfl rfl ((IndexDot_S (f := n_p_gate_Gate_whole) (pre := [.pointer (some ⟨gg, 0, none⟩)]) (post := []) (p := fun d => wholeB L1 (prf P1) d) (D := ripes V1 L1) (F := stG gg gq gs gp P1 (que gq n V1 L1 :: rEn A c o D :: all (evF D) :: F)) (fun d hd B => by
  refine scB ?_
  exact whole_G (F := rEn A c o D :: all (evF D) :: F ++ B) (ripes_dot hq1 hd)) hrl).ent (ent_keep 7 [0, 4, 5, 6, 1, 2, 3] rfl rfl)) ?_
 rintro _ _ ⟨⟨Pr, T, hPT, hPr, hT, rfl⟩, rfl⟩
 cases T with
 | nil =>
  rw [if_pos rfl]
  rw [List.append_nil] at hPT
  have hrd := ready_nil (C := prf P1) (fun e he => hPr e (hPT ▸ he))
  rw [dlv_stop hrd k] at hD1 hD2
  rw [List.append_nil] at hD1
  (refine so_1 rfl ?_; refine so_nil (sn_then ?_); (iterate 2 refine sw_seq ?_); refine sw_region ?_; (iterate 2 refine so_1 rfl ?_); refine so_nil (sn_then ?_); refine sw_cond_t rfl ?_; refine sw_seq (sw_region ?_); (iterate 2 refine so_1 rfl ?_); refine so_nil (sn_then ?_); refine sw_ret ?_; refine sn_then_ret ?_; refine sn_block_ret ?_; refine sn_loop_ret ?_; refine sn_block_ret ?_)
  subst ho
  refine sn_ret rfl (.tmp rfl .nil) (ent_keep 7 [5, 6, 1, 2, 3, 4] rfl rfl) ?_
  rw [← hD2]
  exact ⟨A, c, D, P1, hD1, rfl, rfl, rfl⟩
 | cons d T =>
 rw [if_neg (by simp)]
 have hd := hT d T rfl
 have hrd := ready_head (C := prf P1) hPT hPr hd
 have hdm : d ∈ ripes V1 L1 := by rw [hPT]; simp
 have hdk := ripes_dot hq1 hdm
 obtain ⟨x, hfx, hlx, hxd⟩ := ripes_mem hq1 hdm
 have hlt := delW_lt hfx
 obtain ⟨k', rfl⟩ : ∃ k', k = k' + 1 := ⟨k - 1, by omega⟩
 rw [dlv_go hrd k'] at hD1 hD2
 have hat : (ripes V1 L1)[Pr.length]? = some d := by rw [hPT]; simp
 have hatl : Pr.length < (ripes V1 L1).length := by rw [hPT, List.length_append, List.length_cons]; omega
 have fx := dots_seg hat
 refine so_fact (fun w H => (H.oat (k := 0) rfl).form) ?_
 rintro ⟨A', c', hv, _, _, q3⟩
 cases hv
 obtain ⟨gR, oR, rfl⟩ := q3 (by omega)
 (refine so_1 rfl ?_; refine so_nil (sn_then ?_); (iterate 2 refine sw_seq ?_); refine sw_region ?_; (iterate 2 refine so_1 rfl ?_); refine so_nil (sn_then ?_); refine sw_cond_f rfl ?_; refine sw_skip ?_; refine sn_then ?_; refine sw_seq ?_)
 have hdE : delE V1 L1 d = 0 := by rw [delE, hfx]; exact if_pos hlx
 have hsw := hq1.del (findW_some hfx).1 hlx
 rw [hxd] at hsw
 have hxe : (x.e.r, x.e.n) = d := hxd
 have hx1 : x.e.r = d.1 := congrArg Prod.fst hxe
 have hx2 : x.e.n = d.2 := congrArg Prod.snd hxe
 rw [hx1, hx2] at hsw
 have hDel : ∀ {A0 : List SP}, SC Tryz.prog n_p_hold_Queue_Deliver [.pointer (some ⟨gq, 0, none⟩), dotP d] b (que gq n V1 L1 :: A0) (fun u F' => ∃ w, nW w = x ∧ u = .tuple ⟨[evV w.e, .int .i64 0]⟩ ∧ F' = rZ w.e.dv w.e.deps :: rD w.e.rv w.e.refs :: que gq n (advV V1 d.1 d.2) (delW d L1) :: A0) := fun {A0} => (Deliver_Q hdk).mono fun u F' h => by
  rcases h with ⟨h1, _⟩ | ⟨x', w, h1, _, h3, h4, h5⟩
  ·exact absurd hdE h1
  ·rw [hfx] at h1; cases h1; exact ⟨w, h3, h4, h5⟩
 have hew : ∀ w : Wn, nW w = x → w.e.id.length = 32 ∧ nE w.e = nE x.e := fun w hw => by
  have h1 := (hq1.ew x (findW_some hfx).1).l32
  rw [← hw] at h1
  exact ⟨h1, by rw [← hw]; rfl⟩
 refine sw_slide (S' := Nat × Wn) flo 12 0 0 [0, 1, 2, 3, 4, 5, 6, 7, 8, 9, 10, 11] (OT.pre [13, 14] .nil) (rO (some ⟨gR, oR, none⟩) c0 (ripes V1 L1).length (ripes V1 L1) :: pt gg t_gate_Gate (gtC gq gs gp) :: F) rfl (by decide +kernel) rfl (ent_keep 7 [0, 1] rfl rfl) (fun q => [(0, .pointer (some ⟨gg, 0, none⟩)), (2, .slice A o c), (3, .slice (some ⟨gR, oR, none⟩) (ripes V1 L1).length c0), (4, .int .i64 Pr.length), (5, .pointer (some ⟨q.1, 0, none⟩)), (31, evV q.2.e), (32, .int .i64 0)])
  (fun q => pt q.1 t_api_Event (evC ev0) :: rZ q.2.e.dv q.2.e.deps :: rD q.2.e.rv q.2.e.refs :: rO (some ⟨gR, oR, none⟩) c0 (ripes V1 L1).length (ripes V1 L1) :: stG gg gq gs gp P1 (que gq n (advV V1 d.1 d.2) (delW d L1) :: rEn A c o D :: all (evF D) :: F)) (fun q => nW q.2 = x) (fun q _ => ent_keep 10 [3, 4] rfl rfl) ?_ (fun J => ?_)
 ·rintro ⟨g5, w⟩ hw
  dsimp only at hw ⊢
  obtain ⟨hw32, hwn⟩ := hew w hw
  have wl := evC_len hw32
  refine st_ops 13 2 .nil rfl rfl ?_
  refine sd_fact (rows_one (e := w.e) (i := 1) (j := 2) rfl rfl) fun hone => ?_
  refine sd_stW (vs := evC w.e) 0 rfl rfl rfl rfl rfl rfl rfl rfl wl (evC_one hone.1 hone.2) (by rw [wl]; rfl) (ent_keep 10 [3, 4] rfl rfl) ?_
  (refine sd_1 rfl (.inl rfl) ?_)
  refine sd_nil (sn_last ?_)
  (refine sn_then ?_; refine sw_seq ?_)
  refine sw_draw flo (rO (some ⟨gR, oR, none⟩) c0 (ripes V1 L1).length (ripes V1 L1) :: pt gg t_gate_Gate (gtC gq gs gp) :: F) (by decide +kernel) (ent_keep 10 [3, 4] rfl rfl) ?_
  ((iterate 3 refine sd_1 rfl (.inl rfl) ?_); refine sd_l 1 rfl rfl rfl rfl ?_; (iterate 2 refine sd_1 rfl (.inl rfl) ?_); refine sd_2 rfl rfl (by omega) ?_)
  refine sd_ldrow 0 (Pr.length * 2) rfl rfl rfl rfl rfl rfl rfl rfl (by rw [mulz_eq, Int.toNat_natCast]) (by omega) fx rfl ?_
  refine sd_del 5 dotMK hdk rfl rfl rfl rfl rfl rfl rfl rfl (ent_keep 10 [3, 4] rfl rfl) ?_
  refine sd_nil ?_
  rw [delM_p]
  (refine sn_then ?_; refine sw_region ?_; refine so_1 rfl ?_)
  refine so_ldA 0 rfl rfl rfl rfl rfl rfl (segO_all (by rw [wl]; rfl)) rfl ?_
  refine so_lit1 rfl rfl rfl rfl rfl rfl rfl wl (by decide) fun gl => ?_
  refine so_append 9 rfl rfl rfl rfl rfl rfl rfl rfl rfl (m := 1) (news := evC w.e) (fun w' H => (H.blk (k := 0) rfl).sl (by rw [wl]) (by decide)) (evC_one hone.1 hone.2) (by have := hq.many; omega) (fun _ => rfl) fun v7 => ?_
  refine so_fact (fun w H => (H.oat (k := 9) rfl).form) ?_
  rintro ⟨A7, c7, rfl, _, _, _⟩
  (refine so_1 rfl ?_; refine so_nil ?_; refine sn_block ?_)
  have e1 : evsC D ++ evC w.e = evsC (D ++ [w.e]) := by simp only [flC_app, flC, List.append_nil]
  rw [e1]
  refine sn_ent (G := evP w.e ++ (all (evF D) :: rEn A7 c7 (o + 1) (D ++ [w.e]) :: pt gg t_gate_Gate (gtC gq gs gp) :: mpG gp (delP d P1) :: all (pF P1) :: que gq n (advV V1 d.1 d.2) (delW d L1) :: F)) (ent_keep 11 [2, 3, 10, 9, 5, 6, 7, 8] rfl rfl) ?_
  refine sn_ent (ent_in (A := evF (D ++ [w.e])) evF_snoc) ?_
  refine sn_ent (ent_keep 5 [4, 0, 1, 2, 3] rfl rfl) ?_
  refine sn_ent (ent_delP d P1) ?_
  have hev : evAt d L1 = nE w.e := by rw [evAt, hfx, hwn]
  refine sn_round ⟨D ++ [w.e], advV V1 d.1 d.2, delW d L1, delP d P1, k', o + 1, A7, c7⟩ ⟨rfl, rfl, trivial⟩ (ent_keep 6 [2, 1, 3, 4, 0, 5] rfl rfl) ⟨by dsimp only; omega, by dsimp only; rw [List.length_append, ho]; rfl, by dsimp only; omega, hsw, by dsimp only; rw [← delC_p, List.map_append, List.append_assoc, ← hD1, hev]; rfl, by dsimp only; rw [← delC_p]; exact hD2⟩ hlt
 ·refine sd_nil ?_
  refine sn_t1run 0 8 (R2 := [8, 9, 10, 11]) rfl rfl (by decide +kernel) rfl (ent_keep 7 [0, 1] rfl rfl) ?_
  ((iterate 3 refine sd_1 rfl (.inl rfl) ?_); refine sd_l 1 rfl rfl rfl rfl ?_; (iterate 2 refine sd_1 rfl (.inl rfl) ?_); refine sd_2 rfl rfl (by omega) ?_)
  refine sd_ldrow 0 (Pr.length * 2) rfl rfl rfl rfl rfl rfl rfl rfl (by rw [mulz_eq, Int.toNat_natCast]) (by omega) fx rfl ?_
  skip
  refine sd_nil ?_
  refine sn_t1eff (R2 := [9, 10, 11]) rfl (by decide +kernel) rfl rfl (ent_keep 7 [0, 1] rfl rfl) ?_ ?_
  ·refine sd_new rfl rfl rfl rfl rfl rfl (ent_keep 7 [0, 1] rfl rfl) fun g5 => ?_
   refine sd_nil ?_
   refine sn_tx 8 4 rfl rfl (ent_keep 8 [1, 2] rfl rfl) ?_
   refine sd_call rfl rfl rfl rfl ((hDel (A0 := pt g5 t_api_Event (evC ev0) :: rO (some ⟨gR, oR, none⟩) c0 (ripes V1 L1).length (ripes V1 L1) :: stG gg gq gs gp P1 (rEn A c o D :: all (evF D) :: F))).ent (ent_keep 8 [5, 0, 1, 2, 3, 4, 6, 7] rfl rfl)) ?_
   rintro _ _ ⟨w, hw, rfl, rfl⟩
   refine ⟨ent_keep 10 [4, 5] rfl rfl, ?_⟩
   ((iterate 3 refine sd_1 rfl (.inl rfl) ?_))
   refine sd_nil ?_
   exact J (g5, w) _ _ hw ⟨rfl, rfl, rfl, rfl, rfl, rfl, rfl, trivial⟩ (ent_keep 10 [3, 0, 1, 4, 5, 6, 7, 2, 8, 9] rfl rfl)
  ·refine sd_call rfl rfl rfl rfl ((hDel (A0 := rO (some ⟨gR, oR, none⟩) c0 (ripes V1 L1).length (ripes V1 L1) :: stG gg gq gs gp P1 (rEn A c o D :: all (evF D) :: F))).ent (ent_keep 7 [4, 0, 1, 2, 3, 5, 6] rfl rfl)) ?_
   rintro _ _ ⟨w, hw, rfl, rfl⟩
   refine ⟨ent_keep 9 [3, 4] rfl rfl, ?_⟩
   refine sd_nil ?_
   refine sn_t1run 9 3 (R2 := []) rfl rfl (by decide +kernel) rfl (ent_keep 9 [3, 4] rfl rfl) ?_
   ((iterate 3 refine sd_1 rfl (.inl rfl) ?_))
   refine sd_nil ?_
   refine sn_t1nil rfl (by decide +kernel) rfl (ent_keep 9 [3, 4] rfl rfl) ?_
   refine sd_new rfl rfl rfl rfl rfl rfl (ent_keep 9 [3, 4] rfl rfl) fun g5 => ?_
   refine sd_nil ?_
   exact J (g5, w) _ _ hw ⟨rfl, rfl, rfl, rfl, rfl, rfl, rfl, trivial⟩ (ent_keep 10 [0, 1, 2, 4, 5, 6, 7, 3, 8, 9] rfl rfl)
end

theorem cb_flip : ∀ x y : List UInt8, Lib.compareBytes x y = -Lib.compareBytes y x
 | [], [] => rfl
 | [], _ :: _ => rfl
 | _ :: _, [] => rfl
 | a :: x, b :: y => by
  have ih := cb_flip x y
  simp only [Lib.compareBytes, UInt8.lt_iff_toNat_lt]
  repeat' split
  all_goals omega
theorem cmpM_zero {x y : List Int} (hx : byteW x) (hy : byteW y) : cmpM x y = 0 ↔ x = y := by
 constructor
 ·intro h
  refine u8l_inj hx hy (cb_zero _ _ ?_ ?_)
  ·unfold cmpM at h; omega
  ·rw [cb_flip]; unfold cmpM at h; omega
 ·rintro rfl
  have := cb_flip (u8l x) (u8l x)
  unfold cmpM; omega
theorem cmpM_trans {x y z : List Int} (hx : byteW x) (hz : byteW z) (h1 : cmpM x y < 0) (h2 : cmpM y z < 0) : cmpM x z < 0 :=
 lt_of_le_ne hx hz (leM_trans (leM_of h1) (leM_of h2)) (by rintro rfl; exact cb_asymm _ _ h1 h2)
def Rise (l : List (List Int)) : Prop := l.Pairwise fun a c => cmpM a c < 0
theorem mid_w0 {i j : Nat} (h : i + j ≤ 4000000) : IntKind.i64.wrap ((IntKind.u64.wrap ((i : Int) + (j : Int))).fdiv (2 ^ min (Int.toNat 1) IntKind.u64.bits)) = (((i + j) / 2 : Nat) : Int) := by
 have h1 : IntKind.u64.wrap ((i : Int) + (j : Int)) = (i : Int) + (j : Int) := by
  have : IntKind.u64.wrap ((i : Int) + (j : Int)) = ((i : Int) + (j : Int)) % 18446744073709551616 := rfl
  rw [this]; omega
 rw [h1, show (2 : Int) ^ min (Int.toNat 1) IntKind.u64.bits = 2 from rfl, I64.wrap (by rw [Int.fdiv_eq_ediv_of_nonneg _ (by omega)]; unfold I64; omega), Int.fdiv_eq_ediv_of_nonneg _ (by omega)]
 omega
abbrev cmpF : Value := .func (.func n_sha_Compare) ⟨[]⟩ ⟨[]⟩
section
variable {b : World} {F : List SP} {va : Value} {l : List (List Int)} {x : List Int}
set_option maxRecDepth 20000 in
set_option maxHeartbeats 4000000 in
theorem bsearchID_S (ha : ∀ w, Sat b F w → SL w 32 va l.length (idsC l)) (hl : ∀ a ∈ l, idOk a) (hx : idOk x) (hm : l.length ≤ 1000000) (hs : Rise l) :
  SC Tryz.prog n_slices_BinarySearchFunc_sl_api_ID_api_ID_api_ID [va, idV x, cmpF] b F (fun v F' => (∃ l1 l2, l = l1 ++ l2 ∧ (∀ a ∈ l1, cmpM a x < 0) ∧ (∀ a ∈ l2, ¬ cmpM a x < 0) ∧ v = .tuple ⟨[.int .i64 l1.length, .bool (decide (x ∈ l))]⟩) ∧ F' = F) := by
 have hl32 : len32 l := fun a h => (hl a h).1
 refine enterS F_slices_BinarySearchFunc_sl_api_ID_api_ID_api_ID rfl rfl rfl ?_
 refine sw_fact (fun w H => sl_form (ha w H)) ?_
 rintro ⟨A, c, rfl, h1, h2, h3, h4, _⟩
 (refine sw_seq (sw_region ?_))
 refine so_box rfl rfl rfl rfl rfl fun g4 => ?_
 ((iterate 2 refine so_1 rfl ?_); refine so_nil (sn_then ?_); refine sw_seq (sw_region ?_); (iterate 3 refine so_1 rfl ?_); refine so_nil (sn_then ?_); refine sw_seq (sw_region ?_); (iterate 3 refine so_1 rfl ?_); refine so_nil (sn_then ?_); refine sw_seq ?_; refine sw_block ?_)
 refine sw_loop (S := Nat × Nat) (fun s => [(0, .slice A l.length c), (4, .pointer (some ⟨g4, 0, none⟩)), (2, cmpF), (8, .int .i64 l.length), (9, .int .i64 s.1), (10, .int .i64 s.2)]) (fun _ => pt g4 t_api_ID (u8s x) :: F)
  (fun s => s.1 ≤ s.2 ∧ s.2 ≤ l.length ∧ (∀ a ∈ l.take s.1, cmpM a x < 0) ∧ (∀ a ∈ l.drop s.2, ¬ cmpM a x < 0)) (fun s => s.2 - s.1) (0, l.length) ⟨rfl, rfl, rfl, rfl, rfl, rfl, trivial⟩ (Ent.refl _)
  ⟨Nat.zero_le _, Nat.le_refl _, fun a h => by simp at h, fun a h => by simp at h⟩ ?_
 rintro ⟨i, j⟩ ⟨hij, hjn, hlo, hhi⟩
 dsimp only at hij hjn hlo hhi ⊢
 ((iterate 2 refine sw_seq ?_); refine sw_region ?_; (iterate 3 refine so_1 rfl ?_); refine so_nil (sn_then ?_))
 refine sw_if rfl (fun g1 => ?_) (fun g1 => ?_)
 ·(refine sw_skip ?_; refine sn_then ?_; refine sw_block ?_; refine sw_seq (sw_region ?_); (iterate 2 refine so_1 rfl ?_); refine so_2 rfl (by (unfold I64; omega)) ?_; refine so_1 rfl ?_; refine so_2 rfl (by omega) ?_; (iterate 2 refine so_1 rfl ?_); refine so_nil (sn_then ?_); refine sw_seq ?_)
  rw [mid_w0 (by omega)]
  obtain ⟨m, hm⟩ : ∃ m, m = (i + j) / 2 := ⟨_, rfl⟩
  rw [← hm]
  have hmn : m < l.length := by omega
  obtain ⟨gA, oA, rfl⟩ := h4 (by omega)
  have ca := id_cells ha hl32 hmn
  have hy := hl32 _ (List.getElem_mem hmn)
  obtain ⟨y, hyl⟩ : ∃ y, y = l[m] := ⟨_, rfl⟩
  rw [← hyl] at ca hy
  skip
  refine sw_draw flo _ (by decide +kernel) (Ent.refl _) ?_
  ((iterate 3 refine sd_1 rfl (.inl rfl) ?_); refine sd_2 rfl rfl (by omega) ?_)
  refine sd_rd rfl (fun w H => ex_loadN (cs := u8s y) rfl rfl rfl (by rw [u8s_len, hy]; rfl) (fun j hj => by rw [mulz_eq, Int.toNat_natCast]; exact ca w (H.ent (ent_keep 1 [] rfl rfl)) j (by rw [u8s_len, hy] at hj; exact hj))) rfl rfl ?_
  refine sd_ldA 0 rfl rfl rfl rfl rfl rfl (segID hx.1) rfl rfl ?_
  refine sd_callE rfl rfl rfl rfl (Compare_S hy hx.1) (Ent.refl _) ?_
  (refine sd_1 rfl (.inl rfl) ?_)
  refine sd_nil ?_
  (refine sn_then ?_)
  rw [hyl]
  refine sw_if rfl (fun g2 => ?_) (fun g2 => ?_)
  ·(refine sw_region ?_; refine so_1 rfl ?_; refine so_2 rfl (by (unfold I64; omega)) ?_; refine so_1 rfl ?_; refine so_nil ?_; refine sn_block ?_)
   refine sn_round (m + 1, j) ⟨rfl, rfl, rfl, rfl, rfl, rfl, trivial⟩ (Ent.refl _) ⟨by dsimp only; omega, hjn, fun a ha' => ?_, hhi⟩ (by dsimp only; omega)
   obtain ⟨q, hq1, hq2⟩ := List.mem_take_iff_getElem.1 ha'
   dsimp only at hq1
   subst hq2
   rcases Nat.lt_or_ge q m with hqm | hqm
   ·exact cmpM_trans (idOk_byte (hl _ (List.getElem_mem _))) (idOk_byte hx) (List.pairwise_iff_getElem.1 hs q m (by omega) hmn hqm) g2
   ·have : q = m := by omega
    subst this; exact g2
  ·(refine sw_region ?_; (iterate 2 refine so_1 rfl ?_); refine so_nil ?_; refine sn_block ?_)
   refine sn_round (i, m) ⟨rfl, rfl, rfl, rfl, rfl, rfl, trivial⟩ (Ent.refl _) ⟨by dsimp only; omega, by dsimp only; omega, hlo, fun a ha' => ?_⟩ (by dsimp only; omega)
   obtain ⟨q, hq1, hq2⟩ := List.mem_drop_iff_getElem.1 ha'
   dsimp only at hq1 hq2
   subst hq2
   rcases Nat.eq_zero_or_pos q with hq0 | hq0
   ·subst hq0; exact g2
   ·exact leM_trans (x := x) (y := l[m]) g2 (leM_of (List.pairwise_iff_getElem.1 hs m (m + q) hmn (by omega) (by omega)))
 ·have hji : j = i := by omega
  subst hji
  have hlen : (l.take j).length = j := by rw [List.length_take]; omega
  (refine sw_exit ?_; refine sn_then_exit ?_; refine sn_loop_exit ?_; refine sn_block_exit ?_; refine sn_then ?_; refine sw_seq ?_)
  refine sw_draw flo _ (by decide +kernel) (Ent.refl _) ?_
  ((iterate 5 refine sd_1 rfl (.inl rfl) ?_))
  by_cases hin : j < l.length
  ·obtain ⟨gA, oA, rfl⟩ := h4 (by omega)
   have ca := id_cells ha hl32 hin
   have hy := hl32 _ (List.getElem_mem hin)
   obtain ⟨y, hyl⟩ : ∃ y, y = l[j] := ⟨_, rfl⟩
   rw [← hyl] at ca hy
   have hd : l.drop j = l[j] :: l.drop (j + 1) := List.drop_eq_getElem_cons hin
   refine sd_know 39 (.bool true) rfl (congrArg Value.bool (decide_eq_true (by omega))) ?_
   ((iterate 3 refine sd_1 rfl (.inl rfl) ?_); refine sd_2 rfl rfl (by omega) ?_)
   refine sd_rd rfl (fun w H => ex_loadN (cs := u8s y) rfl rfl rfl (by rw [u8s_len, hy]; rfl) (fun k hk => by rw [mulz_eq, Int.toNat_natCast]; exact ca w (H.ent (ent_keep 1 [] rfl rfl)) k (by rw [u8s_len, hy] at hk; exact hk))) rfl rfl ?_
   refine sd_ldA 0 rfl rfl rfl rfl rfl rfl (segID hx.1) rfl rfl ?_
   refine sd_callE rfl rfl rfl rfl (Compare_S hy hx.1) (Ent.refl _) ?_
   ((iterate 4 refine sd_1 rfl (.inl rfl) ?_))
   refine sd_nil ?_
   (refine sn_then ?_; refine sw_ret ?_)
   refine sn_ret rfl (.tmp rfl (.tmp rfl .nil)) (ent_keep 1 [] rfl rfl) ?_
   refine ⟨⟨l.take j, l.drop j, (List.take_append_drop j l).symm, hlo, hhi, ?_⟩, rfl⟩
   rw [hlen]
   refine congrArg (fun q => Value.tuple ⟨[.int .i64 (j : Int), .bool q]⟩) (decide_eq_decide.2 ?_)
   rw [hyl, cmpM_zero (idOk_byte (hl _ (List.getElem_mem hin))) (idOk_byte hx)]
   constructor
   ·intro h; rw [← h]; exact List.getElem_mem hin
   ·intro h
    rw [← List.take_append_drop j l] at h
    rcases List.mem_append.1 h with h | h
    ·have h3 := hlo x h
     have := (cmpM_zero (idOk_byte hx) (idOk_byte hx)).2 rfl
     omega
    ·rw [hd] at h
     rcases List.mem_cons.1 h with h | h
     ·exact h.symm
     ·exfalso
      obtain ⟨q, hq1, hq2⟩ := List.mem_drop_iff_getElem.1 h
      have h3 := List.pairwise_iff_getElem.1 hs j (j + 1 + q) hin (by omega) (by omega)
      rw [hq2] at h3
      exact hhi l[j] (by rw [hd]; exact List.mem_cons_self) h3
  ·refine sd_know 39 (.bool false) rfl (congrArg Value.bool (decide_eq_false (by omega))) ?_
   ((iterate 6 refine sd_1 rfl (.inl rfl) ?_); refine sd_1 rfl (.inr rfl) ?_; (iterate 4 refine sd_1 rfl (.inl rfl) ?_))
   refine sd_nil ?_
   (refine sn_then ?_; refine sw_ret ?_)
   refine sn_ret rfl (.tmp rfl (.tmp rfl .nil)) (ent_keep 1 [] rfl rfl) ?_
   refine ⟨⟨l.take j, l.drop j, (List.take_append_drop j l).symm, hlo, hhi, ?_⟩, rfl⟩
   rw [hlen]
   refine congrArg (fun q => Value.tuple ⟨[.int .i64 (j : Int), .bool q]⟩) (decide_eq_false fun h => ?_).symm
   rw [List.take_of_length_le (by omega)] at hlo
   have h3 := hlo x h
   have := (cmpM_zero (idOk_byte hx) (idOk_byte hx)).2 rfl
   omega
end

theorem spl_end (a z X : List Value) : spl (a ++ z) a.length X = a ++ X ++ z.drop X.length := by
 unfold spl
 rw [List.take_left' rfl, List.append_assoc]
 congr 2
 rw [← List.drop_drop, List.drop_left' rfl]
theorem idsC_app2 (a c : List (List Int)) : idsC (a ++ c) = idsC a ++ idsC c := by rw [idsC_fl, idsC_fl, idsC_fl, flC_app]
theorem idsC_cons (x : List Int) (c : List (List Int)) : idsC (x :: c) = u8s x ++ idsC c := by rw [idsC_fl, idsC_fl]; rfl
theorem idsC_one2 (l : List (List Int)) : ∀ u ∈ idsC l, u.oneCell' = true := by
 rw [idsC_fl]
 exact flC_one fun x _ => u8s_one x
section
variable {b : World} {F : List SP} {l1 l2 : List (List Int)} {x : List Int} {gl c : Nat} {A : Option Addr}
set_option maxRecDepth 20000 in
set_option maxHeartbeats 4000000 in
theorem Insert_S (h1 : len32 l1) (h2 : len32 l2) (hx : x.length = 32) (hm : (l1 ++ l2).length ≤ 1000000) :
  SC Tryz.prog n_slices_Insert_sl_api_ID_api_ID [.slice A (l1 ++ l2).length c, .int .i64 l1.length, .slice (some ⟨gl, 0, none⟩) 1 1] b (rD (.slice A (l1 ++ l2).length c) (l1 ++ l2) :: pt gl t_api_ID (u8s x) :: F) (fun v F' => F' = rD v (l1 ++ x :: l2) :: F) := by
 have xl : (u8s x).length = 32 := by rw [u8s_len, hx]
 have hl1 : (idsC l1).length = l1.length * 32 := by rw [idsC_fl]; exact flC_len fun y hy => by rw [u8s_len, h1 y hy]
 have hl2 : (idsC l2).length = l2.length * 32 := by rw [idsC_fl]; exact flC_len fun y hy => by rw [u8s_len, h2 y hy]
 have hn : (l1 ++ l2).length = l1.length + l2.length := List.length_append
 have hfin : idsC (l1 ++ x :: l2) = idsC l1 ++ u8s x ++ idsC l2 := by rw [idsC_app2, idsC_cons, List.append_assoc]
 have hfl : (l1 ++ x :: l2).length = l1.length + l2.length + 1 := by rw [List.length_append, List.length_cons]; omega
 refine enterS F_slices_Insert_sl_api_ID_api_ID rfl rfl rfl ?_
 refine sw_fact (fun w H => (H.oat (k := 0) rfl).form) ?_
 rintro ⟨A', c', hv, q1, q2, q3⟩
 cases hv
 (refine sw_seq (sw_region ?_); refine so_1 rfl ?_; refine so_nil (sn_then ?_); refine sw_seq (sw_region ?_); (iterate 2 refine so_1 rfl ?_); refine so_2 rfl (by omega) ?_; refine so_nil (sn_then ?_); refine sw_seq (sw_region ?_); (iterate 3 refine so_1 rfl ?_); refine so_nil (sn_then ?_); (iterate 2 refine sw_seq ?_); refine sw_region ?_; (iterate 2 refine so_1 rfl ?_); refine so_nil (sn_then ?_); refine sw_cond_f rfl ?_; refine sw_skip ?_; refine sn_then ?_; refine sw_seq (sw_region ?_); (iterate 3 refine so_1 rfl ?_); refine so_nil (sn_then ?_); (iterate 2 refine sw_seq ?_); refine sw_region ?_; (iterate 3 refine so_1 rfl ?_); refine so_nil (sn_then ?_))
 by_cases he : l2 = []
 ·subst he
  rw [List.append_nil] at *
  refine sw_know 22 (.bool true) rfl (congrArg Value.bool (decide_eq_true rfl)) ?_
  (refine sw_cond_t rfl ?_; refine sw_seq (sw_region ?_); (iterate 2 refine so_1 rfl ?_))
  refine so_append 0 rfl rfl rfl rfl rfl rfl rfl rfl rfl (m := 1) (news := u8s x) (fun w H => (H.blk (k := 1) rfl).sl (by rw [xl]) (by decide)) (u8s_one x) (by omega) (fun _ => rfl) fun v2 => ?_
  (refine so_1 rfl ?_; refine so_nil (sn_then ?_); refine sw_ret ?_; refine sn_then_ret ?_)
  have e1 : idsC l1 ++ u8s x = idsC (l1 ++ [x]) := by rw [idsC_app2, idsC_cons]; simp [idsC]
  have e2 : l1.length + 1 = (l1 ++ [x]).length := by simp
  rw [e1, e2]
  refine sn_ret rfl (.tmp rfl .nil) (ent_keep 2 [0] rfl rfl) ?_
  rfl
 have hl20 : 0 < l2.length := List.length_pos_iff.2 he
 refine sw_know 22 (.bool false) rfl (congrArg Value.bool (decide_eq_false (by omega))) ?_
 (refine sw_cond_f rfl ?_; refine sw_skip ?_; refine sn_then ?_; (iterate 2 refine sw_seq ?_); refine sw_region ?_; (iterate 2 refine so_1 rfl ?_); refine so_2 rfl (by (unfold I64; omega)) ?_; (iterate 3 refine so_1 rfl ?_); refine so_nil (sn_then ?_))
 have hpre : (idsC (l1 ++ l2)).take (l1.length * 32) = idsC l1 := by rw [idsC_app2, ← hl1, List.take_left' rfl]
 have hpost : (idsC (l1 ++ l2)).drop (l1.length * 32) = idsC l2 := by rw [idsC_app2, ← hl1, List.drop_left' rfl]
 obtain ⟨gA, oA, rfl⟩ := q3 (by omega)
 by_cases hc : c < (l1 ++ l2).length + 1
 ·refine sw_know 31 (.bool true) rfl (congrArg Value.bool (decide_eq_true (by omega))) ?_
  (refine sw_cond_t rfl ?_; refine sw_seq (sw_region ?_); (iterate 2 refine so_1 rfl ?_); refine so_2 rfl (by omega) ?_; (iterate 2 refine so_1 rfl ?_); refine so_2 rfl (by (unfold I64; omega)) ?_; refine so_1 rfl ?_; refine so_2 rfl (by (unfold I64; omega)) ?_)
  refine so_know 34 (.slice (some ⟨gA, oA, none⟩) l1.length c) rfl (by simp) ?_
  refine so_know 39 (.int .i64 ((l2.length + 1 : Nat) : Int)) rfl (by congr 1; omega) ?_
  refine so_appPZ (cs := idsC l1) (j := l1.length) (m := l2.length + 1) (c := c) rfl rfl rfl rfl rfl rfl rfl rfl rfl (fun w H => by have := ((H.oat (k := 0) rfl).take (k := l1.length) (by omega)).sl; rwa [hpre] at this) (by omega) (by omega) (by omega) fun gg c2 zs hzs => ?_
  refine so_fact (fun w H => (H.oat (k := 0) rfl).form) ?_
  rintro ⟨_, _, hv2, p1, p2, _⟩
  cases hv2
  have hz0 : (idsC l1 ++ zs).length = (l1.length + l2.length + 1) * 32 := by rw [List.length_append, hl1, hzs]; omega
  (refine so_1 rfl ?_; refine so_nil (sn_then ?_); refine sw_seq (sw_region ?_); (iterate 2 refine so_1 rfl ?_); refine so_2 rfl (by omega) ?_; refine so_1 rfl ?_)
  refine so_know 43 (.slice (some ⟨gg, l1.length * 32, none⟩) (l2.length + 1) (c2 - l1.length)) rfl (by
   simp only [Int.toNat_natCast]
   rw [if_neg (by omega)]
   simp only [Option.map_some, Addr.add]
   rw [show l1.length + (l2.length + 1) - l1.length = l2.length + 1 by omega]
   split <;> simp_all) ?_
  refine so_copyRowN 0 (l1.length * 32) (m := 1) (news := u8s x) (cs' := idsC l1 ++ u8s x ++ zs.drop 32) rfl rfl rfl rfl rfl rfl rfl rfl rfl (by rw [show min 1 (l2.length + 1) = 1 by omega, List.take_of_length_le (by omega), ← hl1, spl_end, xl]) rfl (by omega) (fun w H => (H.blk (k := 2) rfl).sl (by rw [xl]) (by decide)) (by rw [hz0]; omega) (fun u hu => u8s_one x u (List.mem_of_mem_take hu)) ?_
  (refine so_nil (sn_then ?_); refine sw_seq ?_)
  refine sw_draw flo F (by decide +kernel) (ent_keep 3 [] rfl rfl) ?_
  ((iterate 3 refine sd_1 rfl (.inl rfl) ?_); refine sd_2 rfl rfl (by (unfold I64; omega)) ?_; refine sd_2 rfl rfl (by omega) ?_; (iterate 2 refine sd_1 rfl (.inl rfl) ?_); refine sd_2 rfl rfl (by omega) ?_)
  refine sd_know 50 (.slice (some ⟨gg, (l1.length + 1) * 32, none⟩) l2.length (c2 - (l1.length + 1))) rfl (by
   rw [show ((l1.length : Int) + ((1 : Nat) : Int)).toNat = l1.length + 1 by omega, if_neg (by omega)]
   simp only [Option.map_some, Addr.add]
   rw [show l1.length + (l2.length + 1) - (l1.length + 1) = l2.length by omega]
   split <;> simp_all) ?_
  refine sd_know 53 (.slice (if c = l1.length then some ⟨gA, oA, none⟩ else (some (⟨gA, oA, none⟩ : Addr)).map (·.add (l1.length * 32))) l2.length (c - l1.length)) rfl (by
   simp only [Int.toNat_natCast]
   rw [show (l1 ++ l2).length - l1.length = l2.length by omega]) ?_
  refine sd_copyRowN 0 ((l1.length + 1) * 32) (m := l2.length) (news := idsC l2) (cs' := idsC l1 ++ u8s x ++ idsC l2) rfl rfl rfl rfl rfl rfl rfl rfl rfl rfl (by
   rw [Nat.min_self, List.take_of_length_le (by omega), show (l1.length + 1) * 32 = (idsC l1 ++ u8s x).length by rw [List.length_append, hl1, xl]; omega, spl_end, List.drop_of_length_le (by rw [List.length_drop, hzs, hl2]; omega), List.append_nil]) rfl (by omega) (fun w H => by
   have := ((H.oat (k := 1) rfl).drop (k := l1.length) (by omega)).sl
   rwa [hpost, show (l1 ++ l2).length - l1.length = l2.length by omega] at this) (by simp only [List.length_append, List.length_drop, hl1, xl, hzs]; omega) (fun u hu => idsC_one2 l2 u (List.mem_of_mem_take hu)) (ent_keep 3 [] rfl rfl) ?_
  refine sd_nil ?_
  (refine sn_then ?_; refine sw_seq (sw_region ?_); (iterate 2 refine so_1 rfl ?_); refine so_nil (sn_then ?_); refine sw_ret ?_; refine sn_then_ret ?_)
  rw [← hfin, show l1.length + (l2.length + 1) = (l1 ++ x :: l2).length by omega]
  refine sn_ret rfl (.tmp rfl .nil) (ent_keep 3 [0] rfl rfl) ?_
  rfl
 refine sw_know 31 (.bool false) rfl (congrArg Value.bool (decide_eq_false (by omega))) ?_
 (refine sw_cond_f rfl ?_; refine sw_skip ?_; refine sn_then ?_; refine sw_seq (sw_region ?_); (iterate 3 refine so_1 rfl ?_); refine so_2 rfl (by (unfold I64; omega)) ?_; refine so_2 rfl (by omega) ?_; refine so_1 rfl ?_; refine so_nil (sn_then ?_); (iterate 2 refine sw_seq ?_); refine sw_region ?_; (iterate 4 refine so_1 rfl ?_); refine so_2 rfl (by (unfold I64; omega)) ?_; refine so_2 rfl (by omega) ?_)
 refine so_know 0 (.slice (some ⟨gA, oA, none⟩) ((l1 ++ l2).length + 1) c) rfl (by
  rw [show (((l1 ++ l2).length : Int) + ((1 : Nat) : Int)).toNat = (l1 ++ l2).length + 1 by omega]) ?_
 refine so_rowExt 0 rfl (by omega) (fun _ => rfl) fun zs hzs => ?_
 have hN : (l1 ++ l2).length + 1 = l1.length + (l2.length + 1) := by omega
 have hI : (idsC (l1 ++ l2)).length = (l1 ++ l2).length * 32 := by rw [idsC_app2, List.length_append, hl1, hl2]; omega
 have hbase : idsC (l1 ++ l2) ++ zs = idsC l1 ++ (idsC l2 ++ zs) := by rw [idsC_app2, List.append_assoc]
 skip
 refine so_know 66 (.slice (some ⟨gA, oA + (l1.length + 1) * 32, none⟩) l2.length (c - (l1.length + 1))) rfl (by
  rw [show ((l1.length : Int) + ((1 : Nat) : Int)).toNat = l1.length + 1 by omega, if_neg (by omega)]
  simp only [Option.map_some, Addr.add]
  rw [show (((l1 ++ l2).length : Int) + ((1 : Nat) : Int)).toNat - (l1.length + 1) = l2.length by omega]
  split <;> simp_all) ?_
 refine so_ovl (tS := t_sl_api_ID) (tR := t_bool) 1 0 rfl rfl rfl F_slices_overlaps_api_ID (by kernel_rfl) (by kernel_rfl) (by kernel_rfl) (by kernel_rfl) rfl rfl rfl rfl rfl (by omega) ?_
 (refine so_1 rfl ?_; refine so_nil (sn_then ?_); refine sw_cond_t rfl ?_; refine sw_seq ?_)
 refine sw_draw flo F (by decide +kernel) (ent_keep 2 [] rfl rfl) ?_
 ((iterate 3 refine sd_1 rfl (.inl rfl) ?_); refine sd_2 rfl rfl (by (unfold I64; omega)) ?_; refine sd_2 rfl rfl (by omega) ?_; (iterate 2 refine sd_1 rfl (.inl rfl) ?_); refine sd_2 rfl rfl (by omega) ?_)
 refine sd_know 73 (.slice (some ⟨gA, oA + (l1.length + 1) * 32, none⟩) l2.length (c - (l1.length + 1))) rfl (by
  rw [show ((l1.length : Int) + ((1 : Nat) : Int)).toNat = l1.length + 1 by omega, if_neg (by omega)]
  simp only [Option.map_some, Addr.add]
  rw [show (l1 ++ l2).length + 1 - (l1.length + 1) = l2.length by omega]
  split <;> simp_all) ?_
 refine sd_know 76 (.slice (if c = l1.length then some ⟨gA, oA, none⟩ else (some (⟨gA, oA, none⟩ : Addr)).map (·.add (l1.length * 32))) (l2.length + 1) (c - l1.length)) rfl (by
  simp only [Int.toNat_natCast]
  rw [show (l1 ++ l2).length + 1 - l1.length = l2.length + 1 by omega]) ?_
 have hw : (idsC l2 ++ zs).length = (l2.length + 1) * 32 := by rw [List.length_append, hl2, hzs]; omega
 refine sd_copyRowN 0 ((l1.length + 1) * 32) (m := l2.length + 1) (news := idsC l2 ++ zs) (cs' := idsC l1 ++ (idsC l2 ++ zs).take 32 ++ idsC l2) rfl rfl rfl rfl rfl rfl rfl rfl rfl rfl (by
  rw [show min (l2.length + 1) l2.length = l2.length by omega, List.take_left' hl2, hbase]
  have e1 : idsC l1 ++ (idsC l2 ++ zs) = (idsC l1 ++ (idsC l2 ++ zs).take 32) ++ (idsC l2 ++ zs).drop 32 := by rw [List.append_assoc, List.take_append_drop]
  rw [e1, show (l1.length + 1) * 32 = (idsC l1 ++ (idsC l2 ++ zs).take 32).length by rw [List.length_append, List.length_take, hl1, hw]; omega, spl_end, List.drop_of_length_le (by rw [List.length_drop, hw, hl2]; omega), List.append_nil]) rfl (by omega) (fun w H => by
  have := ((H.oat (k := 0) rfl).drop (k := l1.length) (by omega)).sl
  rwa [hbase, ← hl1, List.drop_left' rfl, hl1, show (l1 ++ l2).length + 1 - l1.length = l2.length + 1 by omega] at this) (by rw [List.length_append, hI, hzs]; omega) (fun u hu => by
  rw [show min (l2.length + 1) l2.length = l2.length by omega, List.take_left' hl2] at hu
  exact idsC_one2 l2 u hu) (ent_keep 2 [] rfl rfl) ?_
 refine sd_nil ?_
 (refine sn_then ?_; refine sw_seq (sw_region ?_); (iterate 2 refine so_1 rfl ?_); refine so_2 rfl (by omega) ?_; refine so_1 rfl ?_)
 refine so_know 80 (.slice (some ⟨gA, oA + l1.length * 32, none⟩) (l2.length + 1) (c - l1.length)) rfl (by
  simp only [Int.toNat_natCast]
  rw [if_neg (by omega)]
  simp only [Option.map_some, Addr.add]
  rw [show (l1 ++ l2).length + 1 - l1.length = l2.length + 1 by omega]
  split <;> simp_all) ?_
 refine so_copyRowN 0 (l1.length * 32) (m := 1) (news := u8s x) (cs' := idsC l1 ++ u8s x ++ idsC l2) rfl rfl rfl rfl rfl rfl rfl rfl rfl (by
  rw [show min 1 (l2.length + 1) = 1 by omega, List.take_of_length_le (l := u8s x) (by omega), ← hl1, List.append_assoc (idsC l1), spl_end, xl, List.drop_left' (by rw [List.length_take, hw]; omega)]) rfl (by omega) (fun w H => (H.blk (k := 1) rfl).sl (by rw [xl]) (by decide)) (by simp only [List.length_append, List.length_take, hl1, hl2, hzs]; omega) (fun u hu => u8s_one x u (List.mem_of_mem_take hu)) ?_
 (refine so_nil (sn_then ?_); refine sw_seq (sw_region ?_); (iterate 2 refine so_1 rfl ?_); refine so_nil (sn_then ?_); refine sw_ret ?_; refine sn_then_ret ?_)
 rw [← hfin, show (l1 ++ l2).length + 1 = (l1 ++ x :: l2).length by omega]
 refine sn_ret rfl (.tmp rfl .nil) (ent_keep 2 [0] rfl rfl) ?_
 rfl
end

def findX (id : List Int) : BL → Option (List Int)
 | [] => none
 | e :: l => if e.1 = id then some e.2 else findX id l
def usedX (X : BL) : Int := (X.map fun e => (e.2.length : Int)).sum
theorem findX_k (id : List Int) (l : List Kp) : findX id (l.map fun e => (e.id, e.b)) = (findK id l).map (·.b) := by
 induction l with
 | nil => rfl
 | cons e l ih =>
  simp only [List.map_cons, findX, findK]
  split
  ·rfl
  ·exact ih
theorem usedX_k (l : List Kp) : usedX (l.map fun e => (e.id, e.b)) = lenSum l := by
 unfold usedX lenSum
 rw [List.map_map]
 rfl
def putXe (X : BL) (id xs : List Int) (w r : Int) : Int := if 4096 < xs.length then 4 else if dg xs w = id then (match findX id X with | some y => if y = xs then 0 else 9 | none => if r < usedX X + xs.length then 10 else 0) else 8
def putXb (X : BL) (id xs : List Int) (w r : Int) : Bool := (findX id X).isNone && decide (putXe X id xs w r = 0)
def putX (X : BL) (id xs : List Int) (w r : Int) : BL := if putXb X id xs w r = true then X ++ [(id, xs)] else X
section
variable {b : World} {F : List SP} {gs : Nat} {w r : Int} {X : BL} {id xs : List Int} {vb : Value}
theorem Put_Q (hr : r ≤ 67108864) (hid : idOk id) (hb : ∀ w, Sat b F w → VL (Value.int .u8) w vb xs) (hx : byteW xs) (hlen : xs.length ≤ 1000000) :
  SC Tryz.prog n_p_blob_Store_Put [.pointer (some ⟨gs, 0, none⟩), idV id, vb] b (sto gs w r X :: F) (fun v F' => v = .tuple ⟨[.bool (putXb X id xs w r), .int .i64 (putXe X id xs w r)]⟩ ∧ F' = sto gs w r (putX X id xs w r) :: F) := by
 refine SC.opn ?_
 rintro ⟨gm, u, l⟩ ⟨hst, hX⟩
 dsimp only at hst hX
 show SC _ _ _ _ (stB gs gm w r u l F) _
 have hu0 : 0 ≤ u := by rw [hst.us]; exact lenSum_nn l
 have hur := hst.ur
 have hfx := findX_k id l
 have hux := usedX_k l
 rw [hX] at hfx hux
 rw [← hst.us] at hux
 have hp : Ent (stB gs gm w r u l F) (sto gs w r X :: F) := ent_pack (G := fun s : Nat × Int × List Kp => stB gs s.1 w r s.2.1 s.2.2 []) (p := fun s => StI w r s.2.1 s.2.2 ∧ s.2.2.map (fun e => (e.id, e.b)) = X) (gm, u, l) ⟨hst, hX⟩
 cases hfd : findK id l with
 | none =>
  rw [hfd] at hfx
  have hfx' : findX id X = none := hfx
  have hE : putXe X id xs w r = putE0 id xs w r u := by
   unfold putXe putE0
   rw [hfx', hux]
  refine (Put_none hb hlen hid hfd (by omega)).out ?_
  intro v F' h
  by_cases h0 : putE0 id xs w r u = 0
  ·rw [if_pos h0] at h
   obtain ⟨h1, g, v1, h2⟩ := h
   have hB : putXb X id xs w r = true := by rw [putXb, hfx', hE, h0]; rfl
   have h3 : ¬ 4096 < xs.length := fun hc => by rw [putE0, if_pos hc] at h0; omega
   have h4 : dg xs w = id := by
    refine Classical.byContradiction fun hc => ?_
    rw [putE0, if_neg h3, if_neg hc] at h0; omega
   have h5 : ¬ r < u + xs.length := fun hc => by
    rw [putE0, if_neg h3, if_pos h4, if_pos hc] at h0; omega
   subst h4
   have hst' := hst.put (g := g) (v1 := v1) hfd hx (by omega) (by omega)
   subst h2
   refine ⟨_, ent_pack (G := fun s : Nat × Int × List Kp => stB gs s.1 w r s.2.1 s.2.2 []) (p := fun s => StI w r s.2.1 s.2.2 ∧ s.2.2.map (fun e => (e.id, e.b)) = putX X (dg xs w) xs w r) (gm, _, _) ⟨hst', ?_⟩, ?_, rfl⟩
   ·dsimp only
    rw [List.map_append, hX, putX, if_pos hB]; rfl
   ·rw [hB, hE, h0]; exact h1
  ·rw [if_neg h0] at h
   have hB : putXb X id xs w r = false := by rw [putXb, hfx', hE]; simp [h0]
   obtain ⟨h1, rfl⟩ := h
   exact ⟨_, hp, by rw [hB, hE]; exact h1, by rw [putX, hB]; rfl⟩
 | some e =>
  rw [hfd] at hfx
  have he := findK_mem hfd
  have hfx' : findX id X = some e.b := hfx
  have hE : putXe X id xs w r = putE1 id xs e w := by
   unfold putXe putE1
   rw [hfx']
  have hB : putXb X id xs w r = false := by rw [putXb, hfx']; rfl
  refine (Put_some hb hlen hid hfd hx (hst.bw e he.1)).out ?_
  rintro v F' ⟨h1, rfl⟩
  exact ⟨_, hp, by rw [hB, hE]; exact h1, by rw [putX, hB]; rfl⟩
theorem Get_Q (hid : idOk id) : SC Tryz.prog n_p_blob_Store_Get [.pointer (some ⟨gs, 0, none⟩), idV id] b (sto gs w r X :: F) (fun v F' => ∃ v1, v = .tuple ⟨[v1, .bool (findX id X).isSome]⟩ ∧ F' = rB v1 ((findX id X).getD []) :: sto gs w r X :: F) := by
 refine SC.opn ?_
 rintro ⟨gm, u, l⟩ ⟨hst, hX⟩
 dsimp only at hst hX
 show SC _ _ _ _ (stB gs gm w r u l F) _
 have hfx := findX_k id l
 rw [hX] at hfx
 have hp : Ent (stB gs gm w r u l F) (sto gs w r X :: F) := ent_pack (G := fun s : Nat × Int × List Kp => stB gs s.1 w r s.2.1 s.2.2 []) (p := fun s => StI w r s.2.1 s.2.2 ∧ s.2.2.map (fun e => (e.id, e.b)) = X) (gm, u, l) ⟨hst, hX⟩
 cases hfd : findK id l with
 | none =>
  rw [hfd] at hfx
  have hfx' : findX id X = none := hfx
  refine (Get_none hid hfd).out ?_
  rintro v _ ⟨h1, rfl⟩
  rw [hfx']
  exact ⟨_, hp.trans (ent_row_nil t_uint8 1 rfl), _, h1, rfl⟩
 | some e =>
  rw [hfd] at hfx
  have he := findK_mem hfd
  have hfx' : findX id X = some e.b := hfx
  refine (Get_some hid hfd (by have := hst.ln e he.1; omega)).out ?_
  rintro v _ ⟨v1, h1, rfl⟩
  rw [hfx']
  exact ⟨_, ent_cons hp, v1, h1, rfl⟩
end

def insD (id : List Int) (l : List (List Int)) : List (List Int) := (l.filter fun a => decide (cmpM a id < 0)) ++ id :: l.filter fun a => !decide (cmpM a id < 0)
theorem insD_of {id : List Int} {l1 l2 : List (List Int)} (h1 : ∀ a ∈ l1, cmpM a id < 0) (h2 : ∀ a ∈ l2, ¬ cmpM a id < 0) : insD id (l1 ++ l2) = l1 ++ id :: l2 := by
 unfold insD
 rw [List.filter_append, List.filter_append]
 have e1 : l1.filter (fun a => decide (cmpM a id < 0)) = l1 := List.filter_eq_self.2 fun a ha => decide_eq_true (h1 a ha)
 have e2 : l2.filter (fun a => decide (cmpM a id < 0)) = [] := List.filter_eq_nil_iff.2 fun a ha => by simpa using h2 a ha
 have e3 : l1.filter (fun a => !decide (cmpM a id < 0)) = [] := List.filter_eq_nil_iff.2 fun a ha => by simpa using h1 a ha
 have e4 : l2.filter (fun a => !decide (cmpM a id < 0)) = l2 := List.filter_eq_self.2 fun a ha => by simpa using h2 a ha
 rw [e1, e2, e3, e4, List.append_nil]; rfl
def refB (L : List Wn) (d : Int × Int) (id : List Int) : Bool := match findW d L with
 | some x => decide (id ∈ x.e.refs)
 | none => false
def shipE (L : List Wn) (X : BL) (d : Int × Int) (id xs : List Int) (w r : Int) : Int := if (findW d L).isNone then 0 else if refB L d id = false then 2 else putXe X id xs w r
def shipB (L : List Wn) (C : CL) (X : BL) (d : Int × Int) (id xs : List Int) (w r : Int) : Bool := refB L d id && decide (putXe X id xs w r = 0) && !decide (id ∈ cfm d C)
def shipX (L : List Wn) (X : BL) (d : Int × Int) (id xs : List Int) (w r : Int) : BL := if refB L d id = true then putX X id xs w r else X
def shipC (L : List Wn) (C : CL) (X : BL) (d : Int × Int) (id xs : List Int) (w r : Int) : CL := if shipB L C X d id xs w r = true then putC d (insD id (cfm d C)) C else C
theorem Hs.ref {d : Int × Int} {L : List Wn} {y : Ev} {s : Int} {is : Bool} (h : Hs d L y s is) (id : List Int) : refB L d id = (is && decide (id ∈ y.refs)) ∧ (findW d L).isNone = !is := by
 have h1 := h.eq
 unfold holdsW at h1
 unfold refB
 cases hf : findW d L with
 | none =>
  rw [hf] at h1
  have h3 : is = false := congrArg (fun z => z.2.2) h1
  rw [h3]; exact ⟨rfl, rfl⟩
 | some x =>
  rw [hf] at h1
  have h2 : y.refs = x.e.refs := congrArg (fun z => z.1.refs) h1
  have h3 : is = true := congrArg (fun z => z.2.2) h1
  rw [h2, h3]; exact ⟨rfl, rfl⟩
theorem putM_p (d : Int × Int) (v : Value) (ids : List (List Int)) (l : List Pf) : ∃ l', putM d (.agg ⟨[v]⟩) (pM l) = pM l' ∧ prf l' = putC d ids (prf l) ∧ ∃ B, (rD v ids :: pF l).Perm (B ++ pF l') := by
 induction l with
 | nil => exact ⟨[⟨d, ids, v⟩], rfl, rfl, [], .refl _⟩
 | cons e l ih =>
  by_cases h : e.d = d
  ·refine ⟨⟨d, ids, v⟩ :: l, ?_, ?_, [rD e.v e.ids], .swap _ _ _⟩
   ·simp only [pM, putM]; rw [if_pos h]
   ·show _ = (if e.d = d then (d, ids) :: prf l else _)
    rw [if_pos h]; rfl
  ·obtain ⟨l', h1, h2, B, h3⟩ := ih
   refine ⟨e :: l', ?_, ?_, B, ?_⟩
   ·simp only [pM, putM]; rw [if_neg h, h1]
   ·show (e.d, e.ids) :: prf l' = (if e.d = d then _ else (e.d, e.ids) :: putC d ids (prf l))
    rw [if_neg h, h2]
   ·exact (List.Perm.swap _ _ _).trans ((h3.cons (rD e.v e.ids)).trans List.perm_middle.symm)
def RC' (C : CL) : Prop := ∀ d, Rise (cfm d C)
section
variable {b : World} {F : List SP} {gg gq gs gp n : Nat} {w r : Int} {V : List Int} {L : List Wn} {X : BL} {C : CL} {d : Int × Int} {id xs : List Int} {vb : Value}
set_option maxRecDepth 20000 in
set_option maxHeartbeats 8000000 in
theorem Ship_G (hC : CK C) (hR : RC' C) (hd : dotOk d) (hid : idOk id) (hr : r ≤ 67108864) (hb : ∀ w, Sat b F w → VL (Value.int .u8) w vb xs) (hx : byteW xs) (hlen : xs.length ≤ 1000000) :
  SC Tryz.prog n_p_gate_Gate_Ship [.pointer (some ⟨gg, 0, none⟩), dotP d, idV id, vb] b (gat gg gq gs C :: que gq n V L :: sto gs w r X :: F) (fun u F' => u = .tuple ⟨[.bool (shipB L C X d id xs w r), .int .i64 (shipE L X d id xs w r)]⟩ ∧ F' = gat gg gq gs (shipC L C X d id xs w r) :: que gq n V L :: sto gs w r (shipX L X d id xs w r) :: F) := by
 refine SC.opn ?_
 rintro ⟨gp, P⟩ hP
 dsimp only at hP
 refine SC.out (R := fun u F' => ∃ P', prf P' = shipC L C X d id xs w r ∧ u = .tuple ⟨[.bool (shipB L C X d id xs w r), .int .i64 (shipE L X d id xs w r)]⟩ ∧ F' = stG gg gq gs gp P' (que gq n V L :: sto gs w r (shipX L X d id xs w r) :: F)) ?_ (by
  rintro u _ ⟨P', h0, h1, rfl⟩
  exact ⟨_, ent_pack (G := fun s : Nat × List Pf => stG gg gq gs s.1 s.2 []) (p := fun s => prf s.2 = shipC L C X d id xs w r) (gp, P') h0, h1, rfl⟩)
 have i32 := hid.1
 show SC _ _ _ _ (stG gg gq gs gp P (que gq n V L :: sto gs w r X :: F)) _
 refine enterS F_p_gate_Gate_Ship rfl rfl rfl ?_
 refine sw_fact (que_qi (k := 3) rfl) fun hq => ?_
 (refine sw_seq (sw_region ?_))
 refine so_box rfl rfl rfl rfl rfl fun g5 => ?_
 refine so_box rfl rfl rfl rfl rfl fun g6 => ?_
 ((iterate 2 refine so_1 rfl ?_); refine so_nil (sn_then ?_); (iterate 2 refine sw_seq ?_); refine sw_region ?_; refine so_1 rfl ?_)
 refine so_callE rfl rfl rfl ((none_G (F := que gq n V L :: sto gs w r X :: pt g6 t_api_ID (u8s id) :: pt g5 t_api_Dot [.int .i64 d.1, .int .i64 d.2] :: F)).at (ent_keep 7 [2, 3, 4, 5, 6, 0, 1] rfl rfl) (ent_keep 7 [5, 6, 0, 1, 2, 3, 4] rfl rfl)) ?_
 (refine so_nil (sn_then ?_); refine sw_cond_f rfl ?_; refine sw_skip ?_; refine sn_then ?_; refine sw_seq ?_)
 refine sw_slide (S' := Nat × Ev × Int × Bool) flo 9 0 0 [0, 1, 2, 3, 4, 5, 6, 7, 8] (OT.pre [10, 11] .nil) (pt g5 t_api_Dot [.int .i64 d.1, .int .i64 d.2] :: pt gg t_gate_Gate (gtC gq gs gp) :: F) rfl (by decide +kernel) rfl (ent_keep 7 [1, 2] rfl rfl) (fun q => [(0, .pointer (some ⟨gg, 0, none⟩)), (3, vb), (5, .pointer (some ⟨g5, 0, none⟩)), (6, .pointer (some ⟨g6, 0, none⟩)), (10, .pointer (some ⟨q.1, 0, none⟩)), (25, .agg ⟨wsC q.2.1 q.2.2.1⟩), (26, .bool q.2.2.2)]) (fun q => pt q.1 t_api_Waiting (wsC ev0 0) :: rZ q.2.1.dv q.2.1.deps :: rD q.2.1.rv q.2.1.refs :: pt g6 t_api_ID (u8s id) :: pt g5 t_api_Dot [.int .i64 d.1, .int .i64 d.2] :: stG gg gq gs gp P (que gq n V L :: sto gs w r X :: F)) (fun q => Hs d L q.2.1 q.2.2.1 q.2.2.2) (fun q _ => ent_keep 10 [4, 5] rfl rfl) ?_ (fun J => ?_)
 ·rintro ⟨g10, y, s, is⟩ hs
  dsimp only at hs ⊢
  have h32 := hs.ew.l32
  obtain ⟨hrf, hno⟩ := hs.ref id
  refine st_ops 10 2 .nil rfl rfl ?_
  skip
  refine sd_fact (fun w H => (H.oat (k := 2) rfl).form) ?_
  rintro ⟨A2, c2, hrv, _, _, _⟩
  refine sd_fact (rows_one (e := y) (i := 1) (j := 2) rfl rfl) fun hone => ?_
  refine sd_stW (vs := wsC y s) 0 rfl rfl rfl rfl rfl rfl rfl rfl (wsC_len h32) (wsC_one hone.1 hone.2) (by rw [wsC_len h32]; rfl) (ent_keep 10 [4, 5] rfl rfl) ?_
  (refine sd_1 rfl (.inl rfl) ?_)
  refine sd_nil (sn_last ?_)
  cases is with
  | false =>
   (refine sn_then ?_; refine sw_seq ?_; refine sw_block ?_; refine sw_seq (sw_region ?_); (iterate 3 refine so_1 rfl ?_); refine so_nil (sn_then ?_); refine sw_cond_t rfl ?_; refine sw_seq (sw_region ?_); (iterate 2 refine so_1 rfl ?_); refine so_nil (sn_then ?_); refine sw_ret ?_; refine sn_block_ret ?_; refine sn_then_ret ?_)
   refine sn_ret rfl (.tmp rfl (.tmp rfl .nil)) (ent_keep 10 [5, 6, 7, 8, 9] rfl rfl) ?_
   have hB : shipB L C X d id xs w r = false := by rw [shipB, hrf]; rfl
   refine ⟨P, by rw [shipC, hB]; exact hP, by rw [hB, shipE, if_pos (by rw [hno]; rfl)]; rfl, ?_⟩
   rw [shipX, hrf]; rfl
  | true =>
  (refine sn_then ?_; refine sw_seq ?_; refine sw_block ?_; refine sw_seq (sw_region ?_); (iterate 3 refine so_1 rfl ?_); refine so_nil (sn_then ?_); refine sw_cond_f rfl ?_; refine sw_seq (sw_region ?_); (iterate 2 refine so_1 rfl ?_))
  refine so_ld 0 rfl rfl rfl rfl rfl rfl ((wsC_rv h32).trans (congrArg some hrv)) rfl ?_
  refine so_ldA 3 rfl rfl rfl rfl rfl rfl (segID i32) rfl ?_
  refine so_callE rfl rfl rfl (ContainsID_S (fun w H => by rw [← hrv]; exact (H.oat (k := 2) rfl).sl) hs.ew.r32 i32 hs.ln.2) ?_
  by_cases hin : id ∈ y.refs
  rotate_left
  ·rw [decide_eq_false hin] at hrf ⊢
   ((iterate 2 refine so_1 rfl ?_); refine so_nil (sn_then ?_); refine sw_cond_t rfl ?_; refine sw_seq (sw_region ?_); (iterate 2 refine so_1 rfl ?_); refine so_nil (sn_then ?_); refine sw_ret ?_; refine sn_block_ret ?_; refine sn_then_ret ?_)
   refine sn_ret rfl (.tmp rfl (.tmp rfl .nil)) (ent_keep 10 [5, 6, 7, 8, 9] rfl rfl) ?_
   have hB : shipB L C X d id xs w r = false := by rw [shipB, hrf]; rfl
   refine ⟨P, by rw [shipC, hB]; exact hP, by rw [hB, shipE, if_neg (by rw [hno]; decide), if_pos (show refB L d id = false from hrf)]; rfl, ?_⟩
   rw [shipX, hrf]; rfl
  rw [decide_eq_true hin] at hrf ⊢
  have hX' : shipX L X d id xs w r = putX X id xs w r := by rw [shipX, hrf]; rfl
  have hE' : shipE L X d id xs w r = putXe X id xs w r := by rw [shipE, if_neg (by rw [hno]; decide), if_neg (by rw [hrf]; decide)]
  ((iterate 2 refine so_1 rfl ?_); refine so_nil (sn_then ?_); refine sw_cond_f rfl ?_; refine sw_skip ?_; refine sn_block ?_; refine sn_then ?_; (iterate 2 refine sw_seq ?_))
  refine sw_draw flo (pt g6 t_api_ID (u8s id) :: pt gg t_gate_Gate (gtC gq gs gp) :: F) (by decide +kernel) (ent_keep 10 [3, 5] rfl rfl) ?_
  ((iterate 3 refine sd_1 rfl (.inl rfl) ?_); refine sd_l 1 rfl rfl rfl rfl ?_)
  refine sd_ldA 0 rfl rfl rfl rfl rfl rfl (segID i32) rfl rfl ?_
  (refine sd_1 rfl (.inl rfl) ?_)
  refine sd_call rfl rfl rfl rfl ((Put_Q (gs := gs) (w := w) (r := r) (X := X) (F := pt g10 t_api_Waiting (wsC y s) :: rZ y.dv y.deps :: rD y.rv y.refs :: pt g6 t_api_ID (u8s id) :: pt g5 t_api_Dot [.int .i64 d.1, .int .i64 d.2] :: stG gg gq gs gp P (que gq n V L :: F)) hr hid (up hb (ent_keep 9 [] rfl rfl)) hx hlen).ent (ent_keep 10 [9, 0, 1, 2, 3, 4, 5, 6, 7, 8] rfl rfl)) ?_
  rintro _ _ ⟨rfl, rfl⟩
  refine ⟨ent_keep 10 [4, 6] rfl rfl, ?_⟩
  refine sd_ent (ent_keep 10 [1, 2, 3, 4, 5, 6, 7, 8, 9, 0] rfl rfl) ?_
  ((iterate 5 refine sd_1 rfl (.inl rfl) ?_))
  refine sd_nil ?_
  (refine sn_then ?_; refine sw_seq (sw_region ?_); (iterate 2 refine so_1 rfl ?_); refine so_nil (sn_then ?_))
  by_cases he : putXe X id xs w r = 0
  rotate_left
  ·refine sw_know 48 (.bool true) rfl (congrArg Value.bool (by rw [decide_eq_false he]; rfl)) ?_
   (refine sw_cond_t rfl ?_; refine sw_seq (sw_region ?_); (iterate 3 refine so_1 rfl ?_); refine so_nil (sn_then ?_); refine sw_ret ?_; refine sn_then_ret ?_)
   refine sn_ret rfl (.tmp rfl (.tmp rfl .nil)) (ent_keep 10 [5, 6, 7, 8, 9] rfl rfl) ?_
   have hB : shipB L C X d id xs w r = false := by rw [shipB, decide_eq_false he]; simp
   refine ⟨P, by rw [shipC, hB]; exact hP, by rw [hB, hE']; rfl, ?_⟩
   rw [hX']
  refine sw_know 48 (.bool false) rfl (congrArg Value.bool (by rw [decide_eq_true he]; rfl)) ?_
  (refine sw_cond_f rfl ?_; refine sw_skip ?_; refine sn_then ?_; refine sw_seq ?_)
  refine sw_fact (fun w H => by exact prf_at (l := P) d (k := 7) H rfl) ?_
  rintro ⟨A3, c3, hat⟩
  have hsl : ∀ {F9 : List SP} {k : Nat}, nth F9 k = some (all (pF P)) → ∀ W, Sat b F9 W → SL W 32 (.slice A3 (cfm d C).length c3) (cfm d C).length (idsC (cfm d C)) := fun {F9 k} hk => by
   have := prf_sl (b := b) (F := F9) (k := k) hat hk
   rwa [hP] at this
  rw [hP] at hat
  refine sw_draw flo (pt g5 t_api_Dot [.int .i64 d.1, .int .i64 d.2] :: pt gg t_gate_Gate (gtC gq gs gp) :: mpG gp P :: F) (by decide +kernel) (ent_keep 10 [4, 5, 6] rfl rfl) ?_
  ((iterate 3 refine sd_1 rfl (.inl rfl) ?_); refine sd_l 1 rfl rfl rfl rfl ?_; refine sd_l 0 rfl rfl rfl rfl ?_)
  refine sd_lookN 2 dotMK hd hat rfl rfl rfl rfl rfl rfl rfl rfl rfl ?_
  refine sd_new rfl rfl rfl rfl rfl rfl (ent_keep 10 [4, 5, 6] rfl rfl) fun g14 => ?_
  refine sd_stW (vs := [.slice A3 (cfm d C).length c3]) 0 rfl rfl rfl rfl rfl rfl rfl rfl rfl (by simp [Value.oneCell']) rfl (ent_keep 11 [5, 6, 7] rfl rfl) ?_
  skip
  refine sd_nil ?_
  (refine sn_then ?_; refine sw_seq (sw_region ?_); refine so_1 rfl ?_; refine so_l 0 rfl rfl rfl ?_)
  refine so_ldA 4 rfl rfl rfl rfl rfl rfl (segID i32) rfl ?_
  refine so_call rfl rfl rfl (bsearchID_S (hsl (k := 8) rfl) (hC d).1 hid (hC d).2 (hR d)) ?_
  rintro _ _ ⟨⟨l1, l2, hl, hl1, hl2, rfl⟩, rfl⟩
  ((iterate 5 refine so_1 rfl ?_); refine so_nil (sn_then ?_); (iterate 2 refine sw_seq ?_); refine sw_region ?_; refine so_1 rfl ?_; refine so_nil (sn_then ?_))
  by_cases hf : id ∈ cfm d C
  ·refine sw_know 63 (.bool true) rfl (congrArg Value.bool (decide_eq_true hf)) ?_
   (refine sw_cond_t rfl ?_; refine sw_seq (sw_region ?_); (iterate 2 refine so_1 rfl ?_); refine so_nil (sn_then ?_); refine sw_ret ?_; refine sn_then_ret ?_)
   refine sn_ret rfl (.tmp rfl (.tmp rfl .nil)) (ent_keep 11 [6, 7, 8, 9, 10] rfl rfl) ?_
   have hB : shipB L C X d id xs w r = false := by rw [shipB, decide_eq_true hf]; simp
   refine ⟨P, by rw [shipC, hB]; exact hP, by rw [hB, hE', he]; rfl, ?_⟩
   rw [hX']
  refine sw_know 63 (.bool false) rfl (congrArg Value.bool (decide_eq_false hf)) ?_
  have hB : shipB L C X d id xs w r = true := by rw [shipB, hrf, decide_eq_true he, decide_eq_false hf]; rfl
  (refine sw_cond_f rfl ?_; refine sw_skip ?_; refine sn_then ?_; refine sw_seq ?_)
  refine sw_slide (S' := Nat × Option Addr × Nat) flo 10 9 1 [0, 1, 2, 3, 4, 5, 6, 7, 8] (OT.pre [11, 12, 13] .nil) (pt g14 t_gate_proof [.slice A3 (cfm d C).length c3] :: pt g6 t_api_ID (u8s id) :: pt g5 t_api_Dot [.int .i64 d.1, .int .i64 d.2] :: pt gg t_gate_Gate (gtC gq gs gp) :: F) rfl (by decide +kernel) rfl (ent_keep 11 [0, 4, 5, 6] rfl rfl) (fun q => [(67, .map (some gp)), (68, dotP d), (71, .slice q.2.1 (cfm d C).length q.2.2), (72, .int .i64 l1.length), (74, .slice (some ⟨q.1, 0, none⟩) 1 1)])
   (fun q => rD (.slice q.2.1 (cfm d C).length q.2.2) (cfm d C) :: pt q.1 t_api_ID (u8s id) :: pt g14 t_gate_proof [.slice A3 (cfm d C).length c3] :: pt g10 t_api_Waiting (wsC y s) :: rZ y.dv y.deps :: rD y.rv y.refs :: pt g6 t_api_ID (u8s id) :: pt g5 t_api_Dot [.int .i64 d.1, .int .i64 d.2] :: stG gg gq gs gp P (que gq n V L :: sto gs w r (putX X id xs w r) :: F)) (fun q => True) (fun q _ => ent_keep 13 [2, 6, 7, 8] rfl rfl) ?_ (fun J => ?_)
  ·rintro ⟨gl, A7, c7⟩ _
   dsimp only
   have hm := (hC d).2
   have hl32 : len32 (l1 ++ l2) := fun a ha => ((hC d).1 a (by rw [hl]; exact ha)).1
   have hfin : shipC L C X d id xs w r = putC d (l1 ++ id :: l2) (prf P) := by rw [shipC, if_pos hB, hl, insD_of hl1 hl2, hP]
   rw [hl] at hm ⊢
   refine st_ops 11 3 .nil rfl rfl ?_
   refine sd_call rfl rfl rfl rfl (Insert_S (l1 := l1) (l2 := l2) (x := id) (fun a ha => hl32 a (List.mem_append_left _ ha)) (fun a ha => hl32 a (List.mem_append_right _ ha)) i32 hm) ?_
   rintro v9 _ rfl
   refine ⟨ent_keep 12 [1, 5, 6, 7] rfl rfl, ?_⟩
   refine sd_fact (fun w H => (H.oat (k := 0) rfl).form) ?_
   rintro ⟨A9, c9, rfl, _, _, _⟩
   (refine sd_1 rfl (.inl rfl) ?_)
   obtain ⟨P', p1, p2, B, p3⟩ := putM_p d (.slice A9 (l1 ++ id :: l2).length c9) (l1 ++ id :: l2) P
   refine sd_know 76 (.agg ⟨[.slice A9 (l1 ++ id :: l2).length c9]⟩) rfl rfl ?_
   refine sd_put 8 dotMK hd rfl rfl rfl rfl rfl rfl rfl rfl rfl (ent_keep 12 [1, 5, 6, 7] rfl rfl) ?_
   refine sd_nil (sn_last ?_)
   rw [p1]
   (refine sn_then ?_; refine sw_seq (sw_region ?_); (iterate 2 refine so_1 rfl ?_); refine so_nil (sn_then ?_); refine sw_ret ?_)
   refine sn_ent (G := [rD (.slice A9 (l1 ++ id :: l2).length c9) (l1 ++ id :: l2)] ++ (all (pF P) :: pt gg t_gate_Gate (gtC gq gs gp) :: mpG gp P' :: que gq n V L :: sto gs w r (putX X id xs w r) :: F)) (ent_keep 12 [0, 9, 7, 8, 10, 11] rfl rfl) ?_
   refine sn_ent (ent_in (A := rD (.slice A9 (l1 ++ id :: l2).length c9) (l1 ++ id :: l2) :: pF P) (.refl _)) ?_
   refine sn_ent (ent_out p3) ?_
   refine sn_ent (ent_post B) ?_
   refine sn_ret rfl (.tmp rfl (.tmp rfl .nil)) (ent_keep 5 [1, 2, 0, 3, 4] rfl rfl) ?_
   refine ⟨P', ?_, by rw [hB, hE', he]; rfl, by rw [hX']⟩
   rw [p2, hfin]
  ·refine sd_ldA 1 rfl rfl rfl rfl rfl rfl (segID i32) rfl rfl ?_
   refine sd_nil ?_
   refine sn_t1run 0 7 (R2 := [7, 8]) rfl rfl (by decide +kernel) rfl (ent_keep 11 [0, 4, 5, 6] rfl rfl) ?_
   ((iterate 3 refine sd_1 rfl (.inl rfl) ?_); refine sd_l 3 rfl rfl rfl rfl ?_; refine sd_l 2 rfl rfl rfl rfl ?_; refine sd_1 rfl (.inl rfl) ?_; refine sd_l 0 rfl rfl rfl rfl ?_)
   refine sd_nil ?_
   refine sn_t1eff (R2 := [8]) rfl (by decide +kernel) rfl rfl (ent_keep 11 [0, 4, 5, 6] rfl rfl) ?_ ?_
   ·refine sd_lit1 (cs := u8s id) rfl rfl rfl rfl rfl rfl rfl rfl (by rw [u8s_len, i32]; rfl) (by decide) (ent_keep 11 [0, 4, 5, 6] rfl rfl) fun gl => ?_
    refine sd_nil ?_
    refine sn_tx 7 2 rfl rfl (ent_keep 12 [1, 5, 6, 7] rfl rfl) ?_
    refine sd_call rfl rfl rfl rfl (Clone_ids (hsl (k := 9) rfl) (hC d).2) ?_
    rintro v7 _ rfl
    refine ⟨ent_keep 13 [2, 6, 7, 8] rfl rfl, ?_⟩
    refine sd_fact (fun w H => (H.oat (k := 0) rfl).form) ?_
    rintro ⟨A7, c7, rfl, _, _, _⟩
    (refine sd_1 rfl (.inl rfl) ?_)
    refine sd_nil ?_
    exact J (gl, A7, c7) _ _ trivial ⟨rfl, rfl, rfl, rfl, rfl, trivial⟩ (Ent.refl _)
   ·refine sd_call rfl rfl rfl rfl (Clone_ids (hsl (k := 8) rfl) (hC d).2) ?_
    rintro v7 _ rfl
    refine ⟨ent_keep 12 [1, 5, 6, 7] rfl rfl, ?_⟩
    refine sd_fact (fun w H => (H.oat (k := 0) rfl).form) ?_
    rintro ⟨A7, c7, rfl, _, _, _⟩
    refine sd_nil ?_
    refine sn_t1run 8 1 (R2 := []) rfl rfl (by decide +kernel) rfl (ent_keep 12 [1, 5, 6, 7] rfl rfl) ?_
    (refine sd_1 rfl (.inl rfl) ?_)
    refine sd_nil ?_
    refine sn_t1nil rfl (by decide +kernel) rfl (ent_keep 12 [1, 5, 6, 7] rfl rfl) ?_
    refine sd_lit1 (cs := u8s id) rfl rfl rfl rfl rfl rfl rfl rfl (by rw [u8s_len, i32]; rfl) (by decide) (ent_keep 12 [1, 5, 6, 7] rfl rfl) fun gl => ?_
    refine sd_nil ?_
    exact J (gl, A7, c7) _ _ trivial ⟨rfl, rfl, rfl, rfl, rfl, trivial⟩ (ent_keep 13 [1, 0, 2, 3, 4, 5, 6, 7, 8, 9, 10, 11, 12] rfl rfl)
 ·refine sd_nil ?_
  refine sn_t1run 0 5 (R2 := [5, 6, 7, 8]) rfl rfl (by decide +kernel) rfl (ent_keep 7 [1, 2] rfl rfl) ?_
  ((iterate 3 refine sd_1 rfl (.inl rfl) ?_); refine sd_l 1 rfl rfl rfl rfl ?_; refine sd_l 0 rfl rfl rfl rfl ?_)
  refine sd_nil ?_
  refine sn_t1eff (R2 := [6, 7, 8]) rfl (by decide +kernel) rfl rfl (ent_keep 7 [1, 2] rfl rfl) ?_ ?_
  ·refine sd_new rfl rfl rfl rfl rfl rfl (ent_keep 7 [1, 2] rfl rfl) fun g10 => ?_
   refine sd_nil ?_
   refine sn_tx 5 4 rfl rfl (ent_keep 8 [2, 3] rfl rfl) ?_
   refine sd_call rfl rfl rfl rfl ((Holds_U (gq := gq) (n := n) (V := V) (L := L) (F := pt g10 t_api_Waiting (wsC ev0 0) :: pt g6 t_api_ID (u8s id) :: pt g5 t_api_Dot [.int .i64 d.1, .int .i64 d.2] :: stG gg gq gs gp P (sto gs w r X :: F)) hd hq).ent (ent_keep 8 [6, 0, 1, 2, 3, 4, 5, 7] rfl rfl)) ?_
   rintro _ _ ⟨y, s, is, hs, rfl, rfl⟩
   refine ⟨ent_keep 10 [5, 6] rfl rfl, ?_⟩
   ((iterate 3 refine sd_1 rfl (.inl rfl) ?_))
   refine sd_nil ?_
   exact J (g10, y, s, is) _ _ hs ⟨rfl, rfl, rfl, rfl, rfl, rfl, rfl, trivial⟩ (ent_keep 10 [3, 0, 1, 4, 5, 6, 7, 8, 2, 9] rfl rfl)
  ·refine sd_call rfl rfl rfl rfl ((Holds_U (gq := gq) (n := n) (V := V) (L := L) (F := pt g6 t_api_ID (u8s id) :: pt g5 t_api_Dot [.int .i64 d.1, .int .i64 d.2] :: stG gg gq gs gp P (sto gs w r X :: F)) hd hq).ent (ent_keep 7 [5, 0, 1, 2, 3, 4, 6] rfl rfl)) ?_
   rintro _ _ ⟨y, s, is, hs, rfl, rfl⟩
   refine ⟨ent_keep 9 [4, 5] rfl rfl, ?_⟩
   refine sd_nil ?_
   refine sn_t1run 6 3 (R2 := []) rfl rfl (by decide +kernel) rfl (ent_keep 9 [4, 5] rfl rfl) ?_
   ((iterate 3 refine sd_1 rfl (.inl rfl) ?_))
   refine sd_nil ?_
   refine sn_t1nil rfl (by decide +kernel) rfl (ent_keep 9 [4, 5] rfl rfl) ?_
   refine sd_new rfl rfl rfl rfl rfl rfl (ent_keep 9 [4, 5] rfl rfl) fun g10 => ?_
   refine sd_nil ?_
   exact J (g10, y, s, is) _ _ hs ⟨rfl, rfl, rfl, rfl, rfl, rfl, rfl, trivial⟩ (ent_keep 10 [0, 1, 2, 4, 5, 6, 7, 8, 3, 9] rfl rfl)
end

set_option maxRecDepth 20000 in
theorem eq_dotN (k : Nat) (a b : Int) (w : World) : (Op.equalIn (k + 1 + 1) t_api_Dot (dotV a b) (dotV a b)).run Tryz.prog w = .ok true w := by
 have hS : Tryz.prog.underlying t_api_Dot = some (.struct (Tryz.prog.fieldsOf t_api_Dot)) := by kernel_rfl
 have hp : Tryz.prog.stoodInHeld t_api_Dot = false := by kernel_rfl
 have hf : ∃ f g : Field, (Tryz.prog.fieldsOf t_api_Dot).toList = [f, g] ∧ f.name ≠ "_" ∧ g.name ≠ "_" ∧ f.type = t_int ∧ g.type = t_int ∧ f.offset = 0 ∧ g.offset = 1 :=
  ⟨_, _, rfl, by decide, by decide, rfl, rfl, rfl, rfl⟩
 obtain ⟨f, g, h1, h2, h3, h4, h5, h6, h7⟩ := hf
 have ui : Tryz.prog.underlying t_int = some (.int .i64) := by kernel_rfl
 rw [run_equalIn_struct w (k + 1) t_api_Dot _ _ hS hp, h1]
 have p0 : ∀ (x y : Int), (part t_int #[.int .i64 x, .int .i64 y] 0).run Tryz.prog w = .ok (.int .i64 x) w := fun x y => by simp [part, isAgg, run_underlying ui]
 have p1 : ∀ (x y : Int), (part t_int #[.int .i64 x, .int .i64 y] 1).run Tryz.prog w = .ok (.int .i64 y) w := fun x y => by simp [part, isAgg, run_underlying ui]
 have q : ∀ x y : Int, (Op.equalIn (k + 1) t_int (.int .i64 x) (.int .i64 y)).run Tryz.prog w = .ok (x == y) w := fun x y => run_equalIn_int w k t_int .i64 .i64 x y ui
 simp only [Op.eqFields, h2, h3, h4, h5, h6, h7, ne_eq, not_false_eq_true, if_true, Sem.run_bind, p0, p1, q, Result.andThen_ok]
 simp [p1, q]
theorem eqAN {P : Program} {t n : Nat} {k : IntKind} [h : ArrI P t n k] (dp : Nat) {a : List Int} (ha : a.length = n) (w : World) :
  (Op.equalIn (dp + 1 + 1) t (.agg ⟨a.map (Value.int k)⟩) (.agg ⟨a.map (Value.int k)⟩)).run P w = .ok true w := by
 obtain ⟨e, i, h1, h2, h3, h4⟩ := h.ex
 rw [run_equalIn_array w (dp + 1) _ _ h1 h3]
 have hc : P.cellsOf e = 1 := by simp [Program.cellsOf, h3, h4]
 have hp : P.plainKey e = true := by simp [Program.plainKey, h2]
 rw [hc]
 have key : ∀ m j, j + m = n → (Op.eqItems (dp + 1) e 1 ⟨a.map (Value.int k)⟩ ⟨a.map (Value.int k)⟩ (List.range' j m)).run P w = .ok true w := by
  intro m
  induction m with
  | zero => intro j hj; simp [Op.eqItems]
  | succ m ih =>
   intro j hj
   have hja : j < a.length := by omega
   have p1 := run_part_plain (P := P) w hp (xs := ⟨a.map (Value.int k)⟩) (off := j) (v := .int k a[j]) (by simp [hja])
   simp only [List.range'_succ, Op.eqItems, Nat.mul_one, Sem.run_bind, p1, Result.andThen_ok, run_equalIn_int w dp e k k _ _ h2]
   simp only [beq_self_eq_true, Bool.not_true, Bool.false_eq_true, if_false]
   exact ih (j + 1) (by omega)
 have := key n 0 (by omega)
 simpa [List.range_eq_range'] using this
theorem eqF_step {P : Program} {dp : Nat} {xs ys : Array Value} {f : Field} {fs : List Field} {w : World} {a c : Value} (hn : f.name ≠ "_") (ha : (part f.type xs f.offset).run P w = .ok a w) (hb : (part f.type ys f.offset).run P w = .ok c w) (he : (Op.equalIn dp f.type a c).run P w = .ok true w) :
  (Op.eqFields dp xs ys (f :: fs)).run P w = (Op.eqFields dp xs ys fs).run P w := by
 simp [Op.eqFields, hn, ha, hb, he]
set_option maxRecDepth 20000 in
theorem eq_wantN (k0 : Nat) {a : Wt} (h : a.id.length = 32) (w : World) : (Op.equalIn (k0 + 1 + 1 + 1) t_api_Want (.agg ⟨wtC a⟩) (.agg ⟨wtC a⟩)).run Tryz.prog w = .ok true w := by
 have hS : Tryz.prog.underlying t_api_Want = some (.struct (Tryz.prog.fieldsOf t_api_Want)) := by kernel_rfl
 have hp : Tryz.prog.stoodInHeld t_api_Want = false := by kernel_rfl
 have hf : ∃ f g k : Field, (Tryz.prog.fieldsOf t_api_Want).toList = [f, g, k] ∧ f.name ≠ "_" ∧ g.name ≠ "_" ∧ k.name ≠ "_" ∧ f.type = t_api_Dot ∧ g.type = t_api_ID ∧ k.type = t_int ∧ f.offset = 0 ∧ g.offset = 2 ∧ k.offset = 34 :=
  ⟨_, _, _, rfl, by decide, by decide, by decide, rfl, rfl, rfl, rfl, rfl, rfl⟩
 obtain ⟨f, g, k, h1, h2, h3, h3', h4, h5, h5', h6, h7, h8⟩ := hf
 have ui : Tryz.prog.underlying t_int = some (.int .i64) := by kernel_rfl
 rw [run_equalIn_struct w (k0 + 1 + 1) t_api_Want _ _ hS hp, h1]
 have ud : Tryz.prog.underlying t_api_Dot = some (.struct (Tryz.prog.fieldsOf t_api_Dot)) := by kernel_rfl
 obtain ⟨e, i, ua, _, _, _⟩ := (inferInstance : ArrI Tryz.prog t_api_ID 32 .u8).ex
 have sd : (sizeOf t_api_Dot).run Tryz.prog w = .ok 2 w := TT.run_size (P := Tryz.prog) (t := t_api_Dot) rfl w
 have sa : (sizeOf t_api_ID).run Tryz.prog w = .ok 32 w := TT.run_size (P := Tryz.prog) (t := t_api_ID) rfl w
 have hl := wtC_len h
 have e2 : (⟨wtC a⟩ : Array Value)[34]? = some (.int .i64 a.to) := by
  simp [wtC, h]
 have p0 : (part t_api_Dot ⟨wtC a⟩ 0).run Tryz.prog w = .ok (dotV a.d.1 a.d.2) w := by
  simp [part, isAgg, run_underlying ud, sd]
  rfl
 have p1 : (part t_api_ID ⟨wtC a⟩ 2).run Tryz.prog w = .ok (idV a.id) w := by
  simp [part, isAgg, run_underlying ua, sa]
  simp [wtC, h]
 have p2 : (part t_int ⟨wtC a⟩ 34).run Tryz.prog w = .ok (.int .i64 a.to) w := by simp [part, isAgg, run_underlying ui, e2]
 have q0 := eq_dotN k0 a.d.1 a.d.2 w
 have q1 := eqAN (P := Tryz.prog) (t := t_api_ID) k0 h w
 have q2 : (Op.equalIn (k0 + 1 + 1) t_int (.int .i64 a.to) (.int .i64 a.to)).run Tryz.prog w = .ok (a.to == a.to) w := run_equalIn_int w (k0 + 1) t_int .i64 .i64 _ _ ui
 clear hS hp ud ua sd sa hl e2 ui
 rw [eqF_step h2 (by rw [h4, h6]; exact p0) (by rw [h4, h6]; exact p0) (by rw [h4]; exact q0), eqF_step h3 (by rw [h5, h7]; exact p1) (by rw [h5, h7]; exact p1) (by rw [h5]; exact q1), eqF_step h3' (by rw [h5', h8]; exact p2) (by rw [h5', h8]; exact p2) (by rw [h5', q2, beq_self_eq_true])]
 rfl
theorem eq_want {a : Wt} (h : a.id.length = 32) (w : World) : (Op.equalIn 10000 t_api_Want (.agg ⟨wtC a⟩) (.agg ⟨wtC a⟩)).run Tryz.prog w = .ok true w := by
 rw [show (10000 : Nat) = 9997 + 1 + 1 + 1 from rfl]
 exact eq_wantN 9997 h w
instance : EqT Tryz.prog t_api_Want := ⟨by kernel_rfl⟩
section
variable {b : World} {F : List SP}
set_option maxRecDepth 20000 in
set_option maxHeartbeats 2000000 in
theorem SameWants_S {va vb : Value} {l : List Wt} (ha : ∀ w, Sat b F w → SL w 35 va l.length (flC wtC l)) (hb : ∀ w, Sat b F w → SL w 35 vb l.length (flC wtC l)) (h32 : ∀ x ∈ l, x.id.length = 32) (hm : l.length ≤ 67108864) : SC Tryz.prog n_entrepotkit_SameWants [va, vb] b F (fun v F' => v = .bool true ∧ F' = F) := by
 refine enterS F_entrepotkit_SameWants rfl rfl rfl ?_
 refine sw_fact (fun w H => sl_form (ha w H)) ?_
 rintro ⟨A, c, rfl, h1, h2, h3, h4, _⟩
 refine sw_fact (fun w H => sl_form (hb w H)) ?_
 rintro ⟨B, d, rfl, q1, q2, q3, q4, _⟩
 (refine sw_seq (sw_region ?_); refine so_1 rfl ?_; refine so_nil (sn_then ?_); refine sw_seq (sw_region ?_); (iterate 6 refine so_1 rfl ?_); refine so_nil (sn_then ?_); (iterate 2 refine sw_seq ?_); refine sw_region ?_; refine so_1 rfl ?_; refine so_nil (sn_then ?_); refine sw_block ?_)
 refine sw_know 5 (.bool true) rfl (by simp) ?_
 refine sw_loop (S := Nat) (fun i => [(0, .slice A l.length c), (1, .slice B l.length d), (5, .bool true), (6, .int .i64 (i : Int))]) (fun _ => F) (fun i => i ≤ l.length) (fun i => l.length - i) 0 ⟨rfl, rfl, rfl, rfl, trivial⟩ (Ent.refl _) (Nat.zero_le _) ?_
 intro i hi
 ((iterate 2 refine sw_seq ?_); refine sw_region ?_; (iterate 7 refine so_1 rfl ?_); refine so_nil (sn_then ?_))
 refine sw_if rfl (fun g1 => ?_) (fun g1 => ?_)
 ·have g1' : i < l.length := by omega
  obtain ⟨gA, oA, rfl⟩ := h4 (by omega)
  obtain ⟨gB, oB, rfl⟩ := q4 (by omega)
  have hl : ∀ x ∈ l, (wtC x).length = 35 := fun x hx => wtC_len (h32 x hx)
  have ca : ∀ w, Sat b F w → ∀ j, j < 35 → w.cell? ⟨gA, oA + i * 35 + j, none⟩ = (wtC l[i])[j]? := fun w H j hj => fl_cell (f := wtC) (ha w H) hl g1' hj
  have cb : ∀ w, Sat b F w → ∀ j, j < 35 → w.cell? ⟨gB, oB + i * 35 + j, none⟩ = (wtC l[i])[j]? := fun w H j hj => fl_cell (f := wtC) (hb w H) hl g1' hj
  have hx := h32 _ (List.getElem_mem g1')
  generalize l[i] = x at *
  have xl := wtC_len hx
  (refine sw_skip ?_; refine sn_then ?_; refine sw_seq ?_; refine sw_block ?_)
  refine sw_draw flo _ (by decide +kernel) (Ent.refl _) ?_
  ((iterate 2 refine sd_1 rfl (.inl rfl) ?_); refine sd_2 rfl rfl (by omega) ?_)
  refine sd_rd rfl (fun w H => ex_loadN (cs := wtC x) rfl rfl rfl xl (fun j hj => by rw [xl] at hj; rw [mulz_eq, Int.toNat_natCast]; exact ca w H j hj)) rfl rfl ?_
  ((iterate 2 refine sd_1 rfl (.inl rfl) ?_); refine sd_2 rfl rfl (by omega) ?_)
  refine sd_rd rfl (fun w H => ex_loadN (cs := wtC x) rfl rfl rfl xl (fun j hj => by rw [xl] at hj; rw [mulz_eq, Int.toNat_natCast]; exact cb w H j hj)) rfl rfl ?_
  refine sd_pu rfl (pu_eqA rfl rfl (eq_want hx)) rfl rfl ?_
  (refine sd_1 rfl (.inl rfl) ?_)
  refine sd_nil ?_
  (refine sn_block ?_; refine sn_then ?_; refine sw_region ?_; refine so_1 rfl ?_; refine so_2 rfl (by (unfold I64; omega)) ?_; refine so_1 rfl ?_; refine so_nil ?_)
  refine sn_round (i + 1) ⟨rfl, rfl, rfl, rfl, trivial⟩ (Ent.refl _) (show i + 1 ≤ l.length by omega) (show l.length - (i + 1) < l.length - i by omega)
 ·(refine sw_exit ?_; refine sn_then_exit ?_; refine sn_loop_exit ?_; refine sn_block_exit ?_; refine sn_then ?_; refine sw_seq (sw_region ?_); (iterate 2 refine so_1 rfl ?_); refine so_nil (sn_then ?_); refine sw_ret ?_)
  refine sn_ret rfl (.tmp rfl .nil) (Ent.refl _) ?_
  exact ⟨rfl, rfl⟩
end

def idA : List Int := sumM [97, 98, 99]
def pushE (id : List Int) : Ev := ⟨2, 1, nS, [0, 0], 1, ⟨#[97]⟩, ⟨#[]⟩, id, nS, [id]⟩
structure PX (id : List Int) : Prop where
 ok : idOk id
 chk : chkE (pushE id) 2 32 = 0
 dA : dg [97, 98, 99] 32 = id
 nd : dg [97, 98, 100] 32 ≠ id
 ne : sumM [] ≠ id
theorem idA_px : PX idA := by
 have h : (sumM [97, 98, 99]).length = 32 ∧ (sumM [97, 98, 99]).all (fun x => (Lit.int .u8 x).wf) = true ∧ chkE (pushE (sumM [97, 98, 99])) 2 32 = 0 ∧ cutR (sumM [97, 98, 99]) 32 = sumM [97, 98, 99] ∧ cutR (sumM [97, 98, 100]) 32 ≠ sumM [97, 98, 99] ∧ sumM [] ≠ sumM [97, 98, 99] := by decide +kernel
 exact ⟨⟨h.1, fun x hx => List.all_eq_true.1 h.2.1 x hx⟩, h.2.2.1, h.2.2.2.1, h.2.2.2.2.1, h.2.2.2.2.2⟩
theorem push_ew {id : List Int} (h : PX id) (dv rv : Value) : EW ((pushE id).own dv rv) :=
 ⟨h.ok, (show dotOk (2, 1) by decide), fun x hx => by cases List.mem_singleton.1 hx; exact h.ok, (by show I64 1; unfold I64; omega), fun x hx => by
  have : x = 0 := by simpa [pushE, Ev.own] using hx
  subst this; unfold I64; omega, (by show (1 : Nat) ≤ maxLen; decide), (by show (0 : Nat) ≤ maxLen; decide)⟩
theorem push_el (id : List Int) (dv rv : Value) : EvL ((pushE id).own dv rv) := ⟨by show (2 : Nat) ≤ _; decide, by show (1 : Nat) ≤ _; decide, by show (1 : Nat) ≤ _; decide, by show (0 : Nat) ≤ _; decide⟩
section
variable {b : World} {F : List SP}
set_option maxRecDepth 20000 in
theorem push_S : SC Tryz.prog n_entrepotlaw22_push [] b F (fun v F' => ∃ dv rv, v = evV ((pushE idA).own dv rv) ∧ F' = rZ dv [0, 0] :: rD rv [idA] :: F) := by
 have h32 := idA_px.ok.1
 have hOf : ∀ {F' : List SP} {vb : Value}, (∀ w, Sat b F' w → VL (Value.int .u8) w vb [97, 98, 99]) → SC Tryz.prog n_sha_Sum [vb] b F' (fun v G => v = idV idA ∧ G = F') := fun h => Sum_S (by decide) h
 generalize idA = id at h32 hOf ⊢
 refine enterS F_entrepotlaw22_push rfl rfl rfl ?_
 (refine sw_seq (sw_region ?_))
 refine so_new rfl rfl rfl rfl rfl fun g0 => ?_
 (refine so_nil (sn_then ?_); refine sw_seq (sw_region ?_))
 refine so_lit ([97, 98, 99].map (Value.int .u8)) rfl rfl rfl rfl rfl rfl rfl rfl rfl fun gl => ?_
 refine so_mark 0 rfl rfl rfl rfl rfl rfl rfl rfl ?_
 refine so_callE rfl rfl rfl (hOf (fun w H => H.ptz_vl (k := 0) rfl rfl (Nat.le_refl _) (by omega) (fun j hj => rfl))) ?_
 skip
 refine so_new rfl rfl rfl rfl rfl fun g1 => ?_
 refine so_stW 0 rfl rfl rfl rfl rfl rfl rfl (by rw [u8s_len, h32]; rfl) (u8s_one _) (by simp [h32]) ?_
 (refine so_nil (sn_then ?_); refine sw_seq (sw_region ?_); refine so_1 rfl ?_)
 refine so_lit (ints [0, 0]) rfl rfl rfl rfl rfl rfl rfl rfl rfl fun gd => ?_
 refine so_ldA 1 rfl rfl rfl rfl rfl rfl (segID h32) rfl ?_
 refine so_ldA 1 rfl rfl rfl rfl rfl rfl (segID h32) rfl ?_
 refine so_lit1 rfl rfl rfl rfl rfl rfl rfl (by rw [u8s_len, h32]; rfl) (by decide) fun gr => ?_
 refine so_B rfl rfl rfl ⟨rfl, rfl, rfl, rfl, (by show (u8s _).length = _; rw [u8s_len, h32]; rfl), rfl, trivial⟩ ?_
 have yl : (evC ((pushE id).own (.slice (some ⟨gd, 0, none⟩) 2 2) (.slice (some ⟨gr, 0, none⟩) 1 1))).length = 39 := evC_len h32
 have y1 := evC_one (e := (pushE id).own (.slice (some ⟨gd, 0, none⟩) 2 2) (.slice (some ⟨gr, 0, none⟩) 1 1)) rfl rfl
 refine so_know 10 (evV ((pushE id).own (.slice (some ⟨gd, 0, none⟩) 2 2) (.slice (some ⟨gr, 0, none⟩) 1 1))) rfl rfl ?_
 generalize hx : (pushE id).own (.slice (some ⟨gd, 0, none⟩) 2 2) (.slice (some ⟨gr, 0, none⟩) 1 1) = x at yl y1 ⊢
 refine so_stW 4 rfl rfl rfl rfl rfl rfl rfl yl y1 (by rw [yl]; rfl) ?_
 (refine so_nil (sn_then ?_); refine sw_ret ?_)
 refine sn_ret rfl (.whole 4 rfl rfl rfl rfl (by rw [yl]; rfl) .nil) ((ent_blk_row (t := t_api_ID) (sz := 32) (n := 1) (v := .slice (some ⟨gr, 0, none⟩) 1 1) rfl (by rw [u8s_len, h32]) (by decide) 0 rfl rfl).trans ((ent_rDi (l := [id]) 0 rfl rfl (by simp [idsC]) rfl).trans ((ent_blk_row (t := t_int) (sz := 1) (n := 2) (v := .slice (some ⟨gd, 0, none⟩) 2 2) rfl rfl (by decide) 1 rfl rfl).trans (ent_keep 5 [1, 0] rfl rfl)))) ?_
 exact ⟨.slice (some ⟨gd, 0, none⟩) 2 2, .slice (some ⟨gr, 0, none⟩) 1 1, by rw [hx]; rfl, rfl⟩
variable {gg gq gs n : Nat} {w r : Int} {V : List Int} {L : List Wn} {X : BL} {C : CL} {d : Int × Int} {id : List Int} {s : ByteArray} {want : Bool} {err : Int}
set_option maxRecDepth 20000 in
theorem ships_S (hC : CK C) (hR : RC' C) (hd : dotOk d) (hid : idOk id) (hr : r ≤ 67108864) (hs : s.size ≤ 1000000) :
  SC Tryz.prog n_entrepotlaw22_ships [.pointer (some ⟨gg, 0, none⟩), dotP d, idV id, .string s, .bool want, .int .i64 err] b (gat gg gq gs C :: que gq n V L :: sto gs w r X :: F) (fun u F' => u = .bool (decide (shipB L C X d id (strI s) w r = want) && decide (shipE L X d id (strI s) w r = err)) ∧ F' = gat gg gq gs (shipC L C X d id (strI s) w r) :: que gq n V L :: sto gs w r (shipX L X d id (strI s) w r) :: F) := by
 have i32 := hid.1
 refine enterS F_entrepotlaw22_ships rfl rfl rfl ?_
 (refine sw_seq (sw_region ?_))
 refine so_box rfl rfl rfl rfl rfl fun g7 => ?_
 refine so_box rfl rfl rfl rfl rfl fun g8 => ?_
 (refine so_1 rfl ?_; refine so_nil (sn_then ?_); refine sw_seq (sw_region ?_); refine so_1 rfl ?_; refine so_l 1 rfl rfl rfl ?_)
 refine so_ldA 0 rfl rfl rfl rfl rfl rfl (segID i32) rfl ?_
 (refine so_1 rfl ?_)
 refine so_s2v rfl rfl rfl rfl rfl rfl rfl rfl (by omega) fun g9 c9 cs hcs => ?_
 refine so_call rfl rfl rfl ((Ship_G (gg := gg) (gq := gq) (gs := gs) (n := n) (w := w) (r := r) (V := V) (L := L) (X := X) (C := C) (d := d) (id := id) (xs := strI s) (F := ptz g9 t_uint8 (cs.length, cs.length + 1) cs :: pt g8 t_api_ID (u8s id) :: pt g7 t_api_Dot [.int .i64 d.1, .int .i64 d.2] :: F) hC hR hd hid hr (fun w H => hcs _ w H) (strI_bw s) (by rw [strI_length]; exact hs)).ent (ent_keep 6 [3, 4, 5, 0, 1, 2] rfl rfl)) ?_
 rintro _ _ ⟨rfl, rfl⟩
 ((iterate 5 refine so_1 rfl ?_); refine so_nil (sn_then ?_); refine sw_seq (sw_region ?_); (iterate 4 refine so_1 rfl ?_))
 by_cases hq : shipB L C X d id (strI s) w r = want
 ·refine so_know 27 (.bool true) rfl (by rw [hq]; cases want <;> rfl) ?_
  ((iterate 5 refine so_1 rfl ?_); refine so_nil (sn_then ?_); refine sw_ret ?_)
  refine sn_ret rfl (.tmp rfl .nil) (ent_keep 6 [0, 1, 2] rfl rfl) ?_
  rw [decide_eq_true hq, Bool.true_and]
  exact ⟨rfl, rfl⟩
 ·refine so_know 27 (.bool false) rfl (by
   revert hq
   generalize shipB L C X d id (strI s) w r = q
   cases q <;> cases want <;> intro hq <;> first | rfl | exact absurd rfl hq) ?_
  ((iterate 5 refine so_1 rfl ?_); refine so_nil (sn_then ?_); refine sw_ret ?_)
  refine sn_ret rfl (.tmp rfl .nil) (ent_keep 6 [0, 1, 2] rfl rfl) ?_
  rw [decide_eq_false hq, Bool.false_and]
  exact ⟨rfl, rfl⟩
set_option maxRecDepth 20000 in
theorem made_nil {n : Nat} (h1 : 1 ≤ n) (h2 : n ≤ 16) (hw : newOk w r) : SC Tryz.prog n_entrepotlaw22_made [.int .i64 n, .int .i64 w, .int .i64 r, .slice none 0 0] b F (fun v F' => ∃ gg gq gs, v = .tuple ⟨[.pointer (some ⟨gg, 0, none⟩), .pointer (some ⟨gq, 0, none⟩), .pointer (some ⟨gs, 0, none⟩)]⟩ ∧ F' = gat gg gq gs [] :: que gq n (List.replicate n 0) [] :: sto gs w r [] :: F) := by
 refine enterS F_entrepotlaw22_made rfl rfl rfl ?_
 (refine sw_seq (sw_region ?_); (iterate 3 refine so_1 rfl ?_); refine so_nil (sn_then ?_); refine sw_seq (sw_region ?_); refine so_1 rfl ?_)
 refine so_call rfl rfl rfl (New_Q h1 h2) ?_
 rintro _ _ ⟨gq, rfl, rfl⟩
 ((iterate 5 refine so_1 rfl ?_); refine so_nil (sn_then ?_); refine sw_seq (sw_region ?_); (iterate 2 refine so_1 rfl ?_))
 refine so_call rfl rfl rfl (New_sto hw) ?_
 rintro _ _ ⟨gs, rfl, rfl⟩
 ((iterate 5 refine so_1 rfl ?_); refine so_nil (sn_then ?_); (iterate 2 refine sw_seq ?_); refine sw_region ?_; (iterate 14 refine so_1 rfl ?_); refine so_nil (sn_then ?_); refine sw_cond_f rfl ?_; refine sw_skip ?_; refine sn_then ?_; (iterate 2 refine sw_seq ?_); refine sw_region ?_; refine so_1 rfl ?_; refine so_nil (sn_then ?_); refine sw_block ?_)
 refine sw_loop (S := Unit) (fun _ => [(1, .int .i64 w), (3, .slice none 0 0), (11, .pointer (some ⟨gq, 0, none⟩)), (13, .pointer (some ⟨gs, 0, none⟩)), (15, .int .i64 0)]) (fun _ => _) (fun _ => True) (fun _ => 0) () ⟨rfl, rfl, rfl, rfl, rfl, trivial⟩ (Ent.refl _) trivial ?_
 rintro ⟨⟩ _
 ((iterate 2 refine sw_seq ?_); refine sw_region ?_; (iterate 4 refine so_1 rfl ?_); refine so_nil (sn_then ?_); refine sw_cond_f rfl ?_; refine sw_exit ?_; refine sn_then_exit ?_; refine sn_loop_exit ?_; refine sn_block_exit ?_; refine sn_then ?_; refine sw_seq (sw_region ?_); (iterate 2 refine so_1 rfl ?_))
 refine so_call rfl rfl rfl ((New_G (V := List.replicate n 0) (L := []) (X := []) (w := w) (r := r) (n := n) (by rw [List.length_replicate]; omega) (by have := hw.1; omega)).ent (ent_keep 2 [1, 0] rfl rfl)) ?_
 rintro _ _ ⟨gg, rfl, rfl⟩
 ((iterate 5 refine so_1 rfl ?_); refine so_nil (sn_then ?_); (iterate 2 refine sw_seq ?_); refine sw_region ?_; (iterate 2 refine so_1 rfl ?_); refine so_nil (sn_then ?_); refine sw_cond_f rfl ?_; refine sw_skip ?_; refine sn_then ?_; refine sw_seq (sw_region ?_); (iterate 6 refine so_1 rfl ?_); refine so_nil (sn_then ?_); refine sw_ret ?_)
 refine sn_ret rfl (.tmp rfl (.tmp rfl (.tmp rfl .nil))) (Ent.refl _) ?_
 exact ⟨gg, gq, gs, rfl, rfl⟩
end
section
variable {b : World} {F : List SP} {l : List Ev} {v : Value}
set_option maxRecDepth 20000 in
set_option maxHeartbeats 4000000 in
theorem SameEvents_S {va vb : Value} {l m : List Ev} (h : l.map nE = m.map nE) (ha : ∀ w, Sat b F w → EL w va l) (hb : ∀ w, Sat b F w → EL w vb m) (h32 : ∀ x ∈ l, x.id.length = 32 ∧ len32 x.refs ∧ x.refs.length ≤ 1000000) :
  SC Tryz.prog n_entrepotkit_SameEvents [va, vb] b F (fun v F' => v = .bool true ∧ F' = F) := by
 have hl : l.length = m.length := by have := congrArg List.length h; rwa [List.length_map, List.length_map] at this
 have hA32 : ∀ x ∈ l, x.id.length = 32 := fun x hx => (h32 x hx).1
 have hB32 : ∀ x ∈ m, x.id.length = 32 := fun x hx => by
  have : nE x ∈ l.map nE := by rw [h]; exact List.mem_map_of_mem hx
  obtain ⟨y, hy, hyx⟩ := List.mem_map.1 this
  rw [← show (nE y).id = x.id by rw [hyx]; rfl]; exact (h32 y hy).1
 refine enterS F_entrepotkit_SameEvents rfl rfl rfl ?_
 refine sw_fact (fun w H => sl_form (ha w H).sl) ?_
 rintro ⟨A, c, rfl, _, _, _, k4, _⟩
 refine sw_fact (fun w H => sl_form (hb w H).sl) ?_
 rintro ⟨B, c2, rfl, _, _, _, k5, _⟩
 (refine sw_seq (sw_region ?_); refine so_1 rfl ?_; refine so_nil (sn_then ?_); refine sw_seq (sw_region ?_); (iterate 6 refine so_1 rfl ?_); refine so_nil (sn_then ?_); (iterate 2 refine sw_seq ?_); refine sw_region ?_; refine so_1 rfl ?_; refine so_nil (sn_then ?_); refine sw_block ?_)
 refine sw_know 5 (.bool true) rfl (congrArg Value.bool (decide_eq_true (by omega))) ?_
 refine sw_loop (S := Nat) (fun i => [(0, .slice A l.length c), (1, .slice B m.length c2), (5, .bool true), (6, .int .i64 (i : Int))]) (fun _ => F) (fun i => i ≤ l.length) (fun i => l.length - i) 0 ⟨rfl, rfl, rfl, rfl, trivial⟩ (Ent.refl _) (Nat.zero_le _) ?_
 intro i hi
 ((iterate 2 refine sw_seq ?_); refine sw_region ?_; (iterate 7 refine so_1 rfl ?_); refine so_nil (sn_then ?_))
 refine sw_if rfl (fun h1 => ?_) (fun h1 => ?_)
 ·have h1' : i < l.length := by omega
  have h2' : i < m.length := by omega
  obtain ⟨g1, o1, rfl⟩ := k4 (by omega)
  obtain ⟨g2, o2, rfl⟩ := k5 (by omega)
  have hxy : nE l[i] = nE m[i] := by
   have := congrArg (·[i]?) h
   simpa [h1', h2'] using this
  have hc1 : ∀ w, Sat b F w → ∀ j, j < 39 → w.cell? ⟨g1, o1 + i * 39 + j, none⟩ = (evC l[i])[j]? := fun w H j hj => ev_cell (ha w H) hA32 h1' hj
  have hc2 : ∀ w, Sat b F w → ∀ j, j < 39 → w.cell? ⟨g2, o2 + i * 39 + j, none⟩ = (evC m[i])[j]? := fun w H j hj => ev_cell (hb w H) hB32 h2' hj
  have he1 : ∀ w, Sat b F w → ER w l[i] := fun w H => (ha w H).er _ (List.getElem_mem h1')
  have he2 : ∀ w, Sat b F w → ER w m[i] := fun w H => (hb w H).er _ (List.getElem_mem h2')
  obtain ⟨x32, xr, xn⟩ := h32 _ (List.getElem_mem h1')
  have y32 := hB32 _ (List.getElem_mem h2')
  generalize l[i] = x at *
  generalize m[i] = y at *
  have xl := evC_len x32
  have yl := evC_len y32
  (refine sw_skip ?_; refine sn_then ?_; refine sw_seq ?_; refine sw_block ?_)
  refine sw_draw flo F (by decide +kernel) (Ent.refl _) ?_
  ((iterate 2 refine sd_1 rfl (.inl rfl) ?_); refine sd_2 rfl rfl (by omega) ?_)
  refine sd_rd rfl (fun w H => ex_loadN (cs := evC x) rfl rfl rfl xl (fun j hj => by rw [mulz_eq, Int.toNat_natCast]; exact hc1 w H j (by rw [xl] at hj; exact hj))) rfl rfl ?_
  ((iterate 2 refine sd_1 rfl (.inl rfl) ?_); refine sd_2 rfl rfl (by omega) ?_)
  refine sd_rd rfl (fun w H => ex_loadN (cs := evC y) rfl rfl rfl yl (fun j hj => by rw [mulz_eq, Int.toNat_natCast]; exact hc2 w H j (by rw [yl] at hj; exact hj))) rfl rfl ?_
  refine sd_callE rfl rfl rfl rfl ((SameEvent_S hxy he1 he2 x32 xr xn)) (Ent.refl _) ?_
  (refine sd_1 rfl (.inl rfl) ?_)
  refine sd_nil ?_
  (refine sn_block ?_; refine sn_then ?_; refine sw_region ?_; refine so_1 rfl ?_; refine so_2 rfl (by (unfold I64; omega)) ?_; refine so_1 rfl ?_; refine so_nil ?_)
  rw [show (i : Int) + 1 = ((i + 1 : Nat) : Int) by omega]
  exact sn_round (i + 1) ⟨rfl, rfl, rfl, rfl, trivial⟩ (Ent.refl _) h1' (by omega)
 ·(refine sw_exit ?_; refine sn_then_exit ?_; refine sn_loop_exit ?_; refine sn_block_exit ?_; refine sn_then ?_; refine sw_seq (sw_region ?_); (iterate 2 refine so_1 rfl ?_); refine so_nil (sn_then ?_); refine sw_ret ?_)
  refine sn_ret rfl (.tmp rfl .nil) (Ent.refl _) ?_
  exact ⟨rfl, rfl⟩
end

abbrev L1 (id : List Int) : List Wn := [⟨0, pushE id, 2⟩]
abbrev C1 (id : List Int) : CL := [((2, 1), [id])]
def abcB : ByteArray := ⟨#[97, 98, 99]⟩
theorem px_add {id : List Int} (h : PX id) (dv rv : Value) : gAddB [0, 0] [] 32 ((pushE id).own dv rv) 2 = true ∧ gAddE [0, 0] [] 32 ((pushE id).own dv rv) 2 = 0 ∧ gAddL [0, 0] [] 32 ((pushE id).own dv rv) 2 = L1 id := by
 have hc : chkE ((pushE id).own dv rv) (([0, 0] : List Int).length : Int) 32 = 0 := h.chk
 refine ⟨?_, ?_, ?_⟩
 ·rw [gAddB, if_pos hc]; rfl
 ·rw [gAddE, if_pos hc]; rfl
 ·rw [gAddL, if_pos hc]; rfl
theorem px_wants {id : List Int} : wantsL (L1 id) [] = [⟨(2, 1), id, 2⟩] := by simp [wantsL, wantsW, cfm, pushE]
theorem px_ready0 {id : List Int} : readyL [0, 0] (L1 id) [] = [] := rfl
theorem px_ready1 {id : List Int} : readyL [0, 0] (L1 id) (C1 id) = [(2, 1)] := rfl
theorem px_dlv {id : List Int} : dlvG [0, 0] (L1 id) (C1 id) = ([pushE id], [0, 1], [], []) := rfl
theorem px_str : strI abcB = [97, 98, 99] := rfl
theorem px_ship {id : List Int} (h : PX id) : shipB (L1 id) [] [] (2, 1) id [97, 98, 99] 32 100 = true ∧ shipE (L1 id) [] (2, 1) id [97, 98, 99] 32 100 = 0 ∧ shipC (L1 id) [] [] (2, 1) id [97, 98, 99] 32 100 = C1 id := by
 have hr : refB (L1 id) (2, 1) id = true := decide_eq_true (by simp [pushE])
 have hp : putXe [] id [97, 98, 99] 32 100 = 0 := by
  rw [putXe, if_neg (by decide), if_pos h.dA]; rfl
 have hB : shipB (L1 id) [] [] (2, 1) id [97, 98, 99] 32 100 = true := by rw [shipB, hr, hp]; rfl
 refine ⟨hB, ?_, ?_⟩
 ·rw [shipE, if_neg (show ¬ ((findW (2, 1) (L1 id)).isNone = true) from fun h => (by cases h)), if_neg (by rw [hr]; decide), hp]
 ·rw [shipC, if_pos hB]; rfl
theorem ck_nil : CK [] := fun d => ⟨fun x h => (by cases h), (by show (0 : Nat) ≤ _; decide)⟩
theorem rc_nil : RC' [] := fun d => List.Pairwise.nil
theorem ck_one {id : List Int} (h : idOk id) : CK (C1 id) := fun d => by
 by_cases hd : (2, 1) = d
 ·have e : cfm d (C1 id) = [id] := if_pos hd
  rw [e]; exact ⟨fun x hx => (by cases List.mem_singleton.1 hx; exact h), (by show (1 : Nat) ≤ _; decide)⟩
 ·have e : cfm d (C1 id) = [] := if_neg hd
  rw [e]; exact ⟨fun x hx => (by cases hx), (by show (0 : Nat) ≤ _; decide)⟩
theorem rc_one {id : List Int} : RC' (C1 id) := fun d => by
 by_cases hd : (2, 1) = d
 ·have e : cfm d (C1 id) = [id] := if_pos hd
  rw [e]; exact List.pairwise_singleton _ _
 ·have e : cfm d (C1 id) = [] := if_neg hd
  rw [e]; exact List.Pairwise.nil
section
variable {b : World} {F : List SP}
set_option maxRecDepth 20000 in
set_option maxHeartbeats 8000000 in
theorem awake22_S : SC Tryz.prog n_entrepotlaw22_awake [] b F (fun v F' => v = .bool true ∧ F' = F) := by
 have hx := idA_px
 have hpush : ∀ {F' : List SP}, SC Tryz.prog n_entrepotlaw22_push [] b F' (fun v G => ∃ dv rv, v = evV ((pushE idA).own dv rv) ∧ G = rZ dv [0, 0] :: rD rv [idA] :: F') := push_S
 generalize idA = id at hx hpush
 have h32 := hx.ok.1
 refine enterS F_entrepotlaw22_awake rfl rfl rfl ?_
 (refine sw_seq (sw_region ?_); refine so_1 rfl ?_; refine so_nil (sn_then ?_); refine sw_seq (sw_region ?_))
 refine so_call rfl rfl rfl (made_nil (n := 2) (w := 32) (r := 100) (by decide) (by decide) (by unfold newOk; omega)) ?_
 rintro _ _ ⟨gg, gq, gs, rfl, rfl⟩
 ((iterate 7 refine so_1 rfl ?_); refine so_nil (sn_then ?_); (iterate 2 refine sw_seq ?_); refine sw_region ?_; (iterate 2 refine so_1 rfl ?_); refine so_nil (sn_then ?_); refine sw_cond_f rfl ?_; refine sw_skip ?_; refine sn_then ?_; refine sw_seq (sw_region ?_))
 refine so_call rfl rfl rfl (hpush) ?_
 rintro _ _ ⟨dv, rv, rfl, rfl⟩
 refine so_fact (fun w H => (H.oat (k := 0) rfl).form) ?_
 rintro ⟨A1, c1, rfl, _, _, _⟩
 refine so_fact (fun w H => (H.oat (k := 1) rfl).form) ?_
 rintro ⟨A2, c2, rfl, _, _, _⟩
 generalize hye : (pushE id).own (.slice A1 ([0, 0] : List Int).length c1) (.slice A2 [id].length c2) = e
 have e32 : e.id.length = 32 := by rw [← hye]; exact h32
 have eid : e.id = id := by rw [← hye]; rfl
 have edv : e.dv = .slice A1 ([0, 0] : List Int).length c1 := by rw [← hye]; rfl
 have erv : e.rv = .slice A2 [id].length c2 := by rw [← hye]; rfl
 have yl : (evC e).length = 39 := evC_len e32
 have y1 := evC_one (e := e) (by rw [edv]; rfl) (by rw [erv]; rfl)
 refine so_new rfl rfl rfl rfl rfl fun g4 => ?_
 refine so_stW 0 rfl rfl rfl rfl rfl rfl rfl yl y1 (by rw [yl]; rfl) ?_
 (refine so_nil (sn_then ?_); refine sw_seq (sw_region ?_); refine so_1 rfl ?_)
 refine so_ldA 0 rfl rfl rfl rfl rfl rfl (segO_all (by rw [yl]; rfl)) rfl ?_
 have hew := push_ew hx (.slice A1 ([0, 0] : List Int).length c1) (.slice A2 [id].length c2)
 have hel := push_el id (.slice A1 ([0, 0] : List Int).length c1) (.slice A2 [id].length c2)
 obtain ⟨a1, a2, a3⟩ := px_add hx (.slice A1 ([0, 0] : List Int).length c1) (.slice A2 [id].length c2)
 rw [hye] at hew hel a1 a2 a3
 have hdl : e.deps.length ≤ 1000000 := by rw [← hye]; show (2 : Nat) ≤ _; decide
 have hrl : e.refs.length ≤ 1000000 := by rw [← hye]; show (1 : Nat) ≤ _; decide
 have her : ∀ w, Sat b (pt g4 t_api_Event (evC e) :: rZ (.slice A1 ([0, 0] : List Int).length c1) [0, 0] :: rD (.slice A2 [id].length c2) [id] :: F) w → ER w e := fun w H => by
  rw [← hye]; exact ⟨vlZ (k := 1) rfl w H, (H.oat (k := 2) rfl).sl⟩
 refine so_call rfl rfl rfl ((Add_G (gg := gg) (gq := gq) (gs := gs) (n := 2) (w := 32) (r := 100) (V := [0, 0]) (L := []) (X := []) (C := []) (e := e) (s := 2) (F := pt g4 t_api_Event (evC e) :: rZ (.slice A1 ([0, 0] : List Int).length c1) [0, 0] :: rD (.slice A2 [id].length c2) [id] :: F) her hew hel hdl hrl).ent (ent_keep 6 [3, 4, 5, 0, 1, 2] rfl rfl)) ?_
 rw [a1, a2, a3]
 rintro _ _ ⟨rfl, rfl⟩
 ((iterate 5 refine so_1 rfl ?_); refine so_nil (sn_then ?_); (iterate 2 refine sw_seq ?_))
 refine sw_tree flo (OT.pre (List.range' 0 8) (.two 8 [9, 10, 11, 12, 13] 14 (OT.pre (List.range' 15 9) .nil))) (pt g4 t_api_Event (evC e) :: F) (by decide +kernel) (ent_keep 6 [3] rfl rfl) ?_
 refine st_ops 0 8 _ rfl rfl ?_
 ((iterate 8 refine sd_1 rfl (.inl rfl) ?_))
 refine sd_nil (sn_tree (ent_keep 6 [3] rfl rfl) ?_)
 have hdt : (.int .i64 e.r : Value) = .int .i64 2 ∧ (.int .i64 e.n : Value) = .int .i64 1 := by rw [← hye]; exact ⟨rfl, rfl⟩
 have hWl : (wantsL (L1 id) []).length ≤ 60000000 := by rw [px_wants]; show (1 : Nat) ≤ _; decide
 have wl : (wtC ⟨(2, 1), id, 2⟩).length = 35 := wtC_len h32
 refine st_twoJ (S' := Option Addr × Nat × Nat) (fun s => [(1, .pointer (some ⟨gg, 0, none⟩)), (4, .pointer (some ⟨g4, 0, none⟩)), (27, .bool false), (29, .slice s.1 1 s.2.1), (35, .slice (some ⟨s.2.2, 0, none⟩) 1 1)])
  (fun s => pt s.2.2 t_api_Want (wtC ⟨(2, 1), id, 2⟩) :: rWt s.1 s.2.1 1 [⟨(2, 1), id, 2⟩] :: gat gg gq gs [] :: que gq 2 [0, 0] (L1 id) :: sto gs 32 100 [] :: pt g4 t_api_Event (evC e) :: rZ (.slice A1 ([0, 0] : List Int).length c1) [0, 0] :: rD (.slice A2 [id].length c2) [id] :: F) (fun _ => True) (fun s _ => ent_keep 8 [5] rfl rfl) (fun J => ?_) (fun J => ?_) ?_
 ·refine st_ops 8 7 _ rfl rfl ?_
  refine sd_call rfl rfl rfl rfl (Wants_G ck_nil hWl) ?_
  rw [px_wants]
  rintro _ _ ⟨A3, c3, rfl, rfl⟩
  refine ⟨ent_keep 7 [4] rfl rfl, ?_⟩
  (refine sd_1 rfl (.inl rfl) ?_; refine sd_l 0 rfl rfl rfl rfl ?_; refine sd_1 rfl (.inl rfl) ?_)
  refine sd_ldA 0 rfl rfl rfl rfl rfl rfl (evC_id e32) rfl rfl ?_
  refine sd_know 31 (.agg ⟨[.int .i64 2, .int .i64 1]⟩) rfl (by rw [hdt.1, hdt.2]) ?_
  refine sd_know 33 (idV id) rfl (by rw [eid]) ?_
  skip
  refine sd_B rfl rfl rfl rfl ⟨rfl, (by show (u8s id).length = 32; rw [u8s_len, h32]), rfl, trivial⟩ ?_
  refine sd_lit1 (cs := wtC ⟨(2, 1), id, 2⟩) rfl rfl rfl rfl rfl rfl rfl rfl wl (by decide) (ent_keep 7 [4] rfl rfl) fun gl => ?_
  refine sd_nil ?_
  exact J (A3, c3, gl) _ _ trivial ⟨rfl, rfl, rfl, rfl, rfl, trivial⟩ (Ent.refl _)
 ·refine st_ops 9 6 _ rfl rfl ?_
  (refine sd_1 rfl (.inl rfl) ?_; refine sd_l 0 rfl rfl rfl rfl ?_; refine sd_1 rfl (.inl rfl) ?_)
  refine sd_ldA 0 rfl rfl rfl rfl rfl rfl (evC_id e32) rfl rfl ?_
  refine sd_know 31 (.agg ⟨[.int .i64 2, .int .i64 1]⟩) rfl (by rw [hdt.1, hdt.2]) ?_
  refine sd_know 33 (idV id) rfl (by rw [eid]) ?_
  skip
  refine sd_B rfl rfl rfl rfl ⟨rfl, (by show (u8s id).length = 32; rw [u8s_len, h32]), rfl, trivial⟩ ?_
  refine sd_lit1 (cs := wtC ⟨(2, 1), id, 2⟩) rfl rfl rfl rfl rfl rfl rfl rfl wl (by decide) (ent_keep 6 [3] rfl rfl) fun gl => ?_
  refine sd_nil (sn_tree (ent_keep 7 [4] rfl rfl) ?_)
  refine st_ops 8 1 _ rfl rfl ?_
  refine sd_call rfl rfl rfl rfl ((Wants_G (gg := gg) (gq := gq) (gs := gs) (n := 2) (V := [0, 0]) (L := L1 id) (C := []) (F := pt gl t_api_Want (wtC ⟨(2, 1), id, 2⟩) :: sto gs 32 100 [] :: pt g4 t_api_Event (evC e) :: rZ (.slice A1 ([0, 0] : List Int).length c1) [0, 0] :: rD (.slice A2 [id].length c2) [id] :: F) ck_nil hWl).ent (ent_keep 7 [1, 2, 0, 3, 4, 5, 6] rfl rfl)) ?_
  rw [px_wants]
  rintro _ _ ⟨A3, c3, rfl, rfl⟩
  refine ⟨ent_keep 8 [5] rfl rfl, ?_⟩
  refine sd_nil ?_
  exact J (A3, c3, gl) _ _ trivial ⟨rfl, rfl, rfl, rfl, rfl, trivial⟩ (ent_keep 8 [3, 0, 1, 2, 4, 5, 6, 7] rfl rfl)
 rintro ⟨A3, c3, gl⟩ _
 dsimp only
 refine st_ops 15 9 _ rfl rfl ?_
 have e1 : flC wtC [⟨(2, 1), id, 2⟩] = wtC ⟨(2, 1), id, 2⟩ := by simp only [flC, List.append_nil]
 refine sd_callE rfl rfl rfl rfl (SameWants_S (l := [⟨(2, 1), id, 2⟩]) (fun w H => (H.oat (k := 1) rfl).sl) (fun w H => by rw [e1]; exact (H.blk (k := 0) rfl).sl (by rw [wl]) (by decide)) (fun x hx => by cases List.mem_singleton.1 hx; exact h32) (by show (1 : Nat) ≤ _; decide)) (ent_keep 8 [5] rfl rfl) ?_
 ((iterate 4 refine sd_1 rfl (.inl rfl) ?_))
 refine sd_call rfl rfl rfl rfl ((Ready_G (gg := gg) (gq := gq) (gs := gs) (n := 2) (V := [0, 0]) (L := L1 id) (C := []) (F := sto gs 32 100 [] :: pt g4 t_api_Event (evC e) :: rZ (.slice A1 ([0, 0] : List Int).length c1) [0, 0] :: rD (.slice A2 [id].length c2) [id] :: F)).ent (ent_keep 8 [2, 3, 4, 5, 6, 7] rfl rfl)) ?_
 rw [px_ready0]
 rintro _ _ ⟨A5, c5, rfl, rfl⟩
 refine ⟨ent_keep 7 [4] rfl rfl, ?_⟩
 ((iterate 3 refine sd_1 rfl (.inl rfl) ?_))
 refine sd_nil (sn_last ?_)
 (refine sn_then ?_; refine sw_cond_f rfl ?_; refine sw_skip ?_; refine sn_then ?_; refine sw_seq ?_)
 obtain ⟨s1, s2, s3⟩ := px_ship hx
 have hsh := ships_S (b := b) (gg := gg) (gq := gq) (gs := gs) (n := 2) (w := 32) (r := 100) (V := [0, 0]) (L := L1 id) (X := []) (C := []) (d := (2, 1)) (id := id) (s := abcB) (want := true) (err := 0) (F := rO A5 c5 0 [] :: pt g4 t_api_Event (evC e) :: rZ (.slice A1 ([0, 0] : List Int).length c1) [0, 0] :: rD (.slice A2 [id].length c2) [id] :: F) ck_nil rc_nil (by decide) hx.ok (by decide) (by decide)
 rw [px_str, s1, s2, s3] at hsh
 generalize shipX (L1 id) [] (2, 1) id [97, 98, 99] 32 100 = X1 at hsh
 refine sw_tree flo (OT.pre (List.range' 0 8) (.two 8 [9, 10] 11 (OT.pre (List.range' 12 4) (.two 16 [17] 18 (OT.pre (List.range' 19 3) .nil))))) (pt g4 t_api_Event (evC e) :: F) (by decide +kernel) (ent_keep 7 [4] rfl rfl) ?_
 refine st_ops 0 8 _ rfl rfl ?_
 ((iterate 2 refine sd_1 rfl (.inl rfl) ?_); refine sd_l 0 rfl rfl rfl rfl ?_; refine sd_1 rfl (.inl rfl) ?_)
 refine sd_ldA 0 rfl rfl rfl rfl rfl rfl (evC_id e32) rfl rfl ?_
 refine sd_know 47 (.agg ⟨[.int .i64 2, .int .i64 1]⟩) rfl (by rw [hdt.1, hdt.2]) ?_
 refine sd_know 49 (idV id) rfl (by rw [eid]) ?_
 skip
 refine sd_call rfl rfl rfl rfl (hsh.ent (ent_keep 7 [1, 2, 3, 0, 4, 5, 6] rfl rfl)) ?_
 rintro _ _ ⟨rfl, rfl⟩
 refine ⟨ent_keep 7 [4] rfl rfl, ?_⟩
 refine sd_know 50 (.bool true) rfl rfl ?_
 ((iterate 2 refine sd_1 rfl (.inl rfl) ?_))
 refine sd_nil (sn_tree (ent_keep 7 [4] rfl rfl) ?_)
 have hRd : ∀ {F9 : List SP}, SC Tryz.prog n_p_gate_Gate_Ready [.pointer (some ⟨gg, 0, none⟩)] b (gat gg gq gs (C1 id) :: que gq 2 [0, 0] (L1 id) :: F9) (fun u F' => ∃ A c, u = .slice A 1 c ∧ F' = rO A c 1 [(2, 1)] :: gat gg gq gs (C1 id) :: que gq 2 [0, 0] (L1 id) :: F9) := fun {F9} => by
  have := Ready_G (b := b) (F := F9) (gg := gg) (gq := gq) (gs := gs) (n := 2) (V := [0, 0]) (L := L1 id) (C := C1 id)
  rwa [px_ready1] at this
 have hDl : ∀ {F9 : List SP}, SC Tryz.prog n_p_gate_Gate_Deliver [.pointer (some ⟨gg, 0, none⟩)] b (gat gg gq gs (C1 id) :: que gq 2 [0, 0] (L1 id) :: F9) (fun u F' => ∃ A c D, D.map nE = [pushE id] ∧ u = .slice A D.length c ∧ F' = rEn A c D.length D :: all (evF D) :: gat gg gq gs [] :: que gq 2 [0, 1] [] :: F9) := fun {F9} => by
  have := Deliver_G (b := b) (F := F9) (gg := gg) (gq := gq) (gs := gs) (n := 2) (V := [0, 0]) (L := L1 id) (C := C1 id)
  rwa [px_dlv] at this
 refine st_twoJ (S' := Option Addr × Nat × Nat) (fun s => [(1, .pointer (some ⟨gg, 0, none⟩)), (4, .pointer (some ⟨g4, 0, none⟩)), (51, .bool true), (53, .slice s.1 1 s.2.1), (56, .slice (some ⟨s.2.2, 0, none⟩) 1 1)])
  (fun s => pt s.2.2 t_api_Dot [.int .i64 2, .int .i64 1] :: rO s.1 s.2.1 1 [(2, 1)] :: gat gg gq gs (C1 id) :: que gq 2 [0, 0] (L1 id) :: pt g4 t_api_Event (evC e) :: rZ (.slice A1 ([0, 0] : List Int).length c1) [0, 0] :: rD (.slice A2 [id].length c2) [id] :: F) (fun _ => True) (fun s _ => ent_keep 7 [4] rfl rfl) (fun J => ?_) (fun J => ?_) ?_
 ·refine st_ops 8 4 _ rfl rfl ?_
  refine sd_call rfl rfl rfl rfl hRd ?_
  rintro _ _ ⟨A6, c6, rfl, rfl⟩
  refine ⟨ent_keep 8 [5] rfl rfl, ?_⟩
  (refine sd_1 rfl (.inl rfl) ?_; refine sd_l 0 rfl rfl rfl rfl ?_)
  refine sd_know 55 (.agg ⟨[.int .i64 2, .int .i64 1]⟩) rfl (by rw [hdt.1, hdt.2]) ?_
  refine sd_lit1 (cs := [.int .i64 2, .int .i64 1]) rfl rfl rfl rfl rfl rfl rfl rfl rfl (by decide) (ent_keep 8 [5] rfl rfl) fun gl2 => ?_
  refine sd_nil ?_
  exact J (A6, c6, gl2) _ _ trivial ⟨rfl, rfl, rfl, rfl, rfl, trivial⟩ (ent_keep 9 [0, 1, 2, 3, 6, 7, 8] rfl rfl)
 ·refine st_ops 9 3 _ rfl rfl ?_
  (refine sd_1 rfl (.inl rfl) ?_; refine sd_l 0 rfl rfl rfl rfl ?_)
  refine sd_know 55 (.agg ⟨[.int .i64 2, .int .i64 1]⟩) rfl (by rw [hdt.1, hdt.2]) ?_
  refine sd_lit1 (cs := [.int .i64 2, .int .i64 1]) rfl rfl rfl rfl rfl rfl rfl rfl rfl (by decide) (ent_keep 7 [4] rfl rfl) fun gl2 => ?_
  refine sd_nil (sn_tree (ent_keep 8 [5] rfl rfl) ?_)
  refine st_ops 8 1 _ rfl rfl ?_
  refine sd_call rfl rfl rfl rfl (hRd.ent (ent_keep 8 [1, 2, 0, 3, 4, 5, 6, 7] rfl rfl)) ?_
  rintro _ _ ⟨A6, c6, rfl, rfl⟩
  refine ⟨ent_keep 9 [6] rfl rfl, ?_⟩
  refine sd_nil ?_
  exact J (A6, c6, gl2) _ _ trivial ⟨rfl, rfl, rfl, rfl, rfl, trivial⟩ (ent_keep 9 [3, 0, 1, 2, 6, 7, 8] rfl rfl)
 rintro ⟨A6, c6, gl2⟩ _
 dsimp only
 refine st_ops 12 4 _ rfl rfl ?_
 refine sd_callE rfl rfl rfl rfl (SameDots_S (l := [(2, 1)]) (fun w H => (H.oat (k := 1) rfl).sl) (fun w H => (H.blk (k := 0) rfl).sl rfl (by decide)) (by show (1 : Nat) ≤ _; decide)) (ent_keep 7 [4] rfl rfl) ?_
 ((iterate 3 refine sd_1 rfl (.inl rfl) ?_))
 refine sd_nil (sn_tree (ent_keep 7 [4] rfl rfl) ?_)
 refine st_twoJ (S' := Option Addr × Nat × List Ev × Nat) (fun s => [(59, .bool true), (61, .slice s.1 s.2.2.1.length s.2.1), (63, .slice (some ⟨s.2.2.2, 0, none⟩) 1 1)])
  (fun s => pt s.2.2.2 t_api_Event (evC e) :: rEn s.1 s.2.1 s.2.2.1.length s.2.2.1 :: all (evF s.2.2.1) :: pt g4 t_api_Event (evC e) :: rZ (.slice A1 ([0, 0] : List Int).length c1) [0, 0] :: rD (.slice A2 [id].length c2) [id] :: F) (fun s => s.2.2.1.map nE = [pushE id]) (fun s _ => ent_keep 6 [3] rfl rfl) (fun J => ?_) (fun J => ?_) ?_
 ·refine st_ops 16 3 _ rfl rfl ?_
  refine sd_call rfl rfl rfl rfl (hDl.ent (ent_keep 7 [2, 3, 4, 5, 6] rfl rfl)) ?_
  rintro _ _ ⟨A7, c7, D, hD, rfl, rfl⟩
  refine ⟨ent_keep 7 [4] rfl rfl, ?_⟩
  refine sd_ldA 0 rfl rfl rfl rfl rfl rfl (segO_all (by rw [yl]; rfl)) rfl rfl ?_
  refine sd_lit1 (cs := evC e) rfl rfl rfl rfl rfl rfl rfl rfl yl (by decide) (ent_keep 7 [4] rfl rfl) fun gl3 => ?_
  refine sd_nil ?_
  exact J (A7, c7, D, gl3) _ _ hD ⟨rfl, rfl, rfl, trivial⟩ (ent_keep 8 [0, 1, 2, 5, 6, 7] rfl rfl)
 ·refine st_ops 17 2 _ rfl rfl ?_
  refine sd_ldA 0 rfl rfl rfl rfl rfl rfl (segO_all (by rw [yl]; rfl)) rfl rfl ?_
  refine sd_lit1 (cs := evC e) rfl rfl rfl rfl rfl rfl rfl rfl yl (by decide) (ent_keep 7 [4] rfl rfl) fun gl3 => ?_
  refine sd_nil (sn_tree (ent_keep 8 [5] rfl rfl) ?_)
  refine st_ops 16 1 _ rfl rfl ?_
  refine sd_call rfl rfl rfl rfl (hDl.ent (ent_keep 8 [3, 4, 0, 5, 6, 7] rfl rfl)) ?_
  rintro _ _ ⟨A7, c7, D, hD, rfl, rfl⟩
  refine ⟨ent_keep 8 [5] rfl rfl, ?_⟩
  refine sd_nil ?_
  exact J (A7, c7, D, gl3) _ _ hD ⟨rfl, rfl, rfl, trivial⟩ (ent_keep 8 [4, 0, 1, 5, 6, 7] rfl rfl)
 rintro ⟨A7, c7, D, gl3⟩ hD
 dsimp only at hD ⊢
 refine st_ops 19 3 _ rfl rfl ?_
 have hne : nE e = pushE id := by rw [← hye]; rfl
 have hDl1 : D.length = 1 := by have := congrArg List.length hD; simpa using this
 have hDx : ∀ x ∈ D, x.id.length = 32 ∧ len32 x.refs ∧ x.refs.length ≤ 1000000 := fun x hx' => by
  have h1 : nE x ∈ [pushE id] := by rw [← hD]; exact List.mem_map.2 ⟨x, hx', rfl⟩
  have h2 := List.mem_singleton.1 h1
  have h3 : x.id = id := congrArg Ev.id h2
  have h4 : x.refs = [id] := congrArg Ev.refs h2
  rw [h3, h4]
  exact ⟨h32, fun a ha => (by cases List.mem_singleton.1 ha; exact h32), (by show (1 : Nat) ≤ _; decide)⟩
 refine sd_callE rfl rfl rfl rfl (SameEvents_S (l := D) (m := [e]) (by rw [hD, List.map_cons, List.map_nil, hne]) (rEs_el (k := 1) (j := 2) rfl rfl) (fun w H => ⟨by
  have e2 : evsC [e] = evC e := by simp [flC]
  rw [e2]; exact (H.blk (k := 0) rfl).sl (by rw [yl]) (by simp), fun m hm => by
  rw [List.mem_singleton.1 hm, ← hye]; exact ⟨vlZ (k := 4) rfl w H, (H.oat (k := 5) rfl).sl⟩⟩) hDx) (ent_keep 6 [3] rfl rfl) ?_
 ((iterate 2 refine sd_1 rfl (.inl rfl) ?_))
 refine sd_nil (sn_last ?_)
 (refine sn_then ?_; refine sw_ret ?_)
 refine sn_ret rfl (.tmp rfl .nil) (ent_keep 6 [] rfl rfl) ?_
 exact ⟨rfl, rfl⟩
end

structure CLr (w : World) (v : Value) (T : List Pf) : Prop where
 sl : SL w 3 v T.length (flC cfC T)
 er : ∀ e ∈ T, SL w 32 e.v e.ids.length (idsC e.ids)
section
variable {b : World} {F : List SP}
theorem rCn_cl {A : Option Addr} {c k j : Nat} {T : List Pf} (hk : nth F k = some (rCn A c T.length T)) (hj : nth F j = some (all (pF T))) : ∀ w, Sat b F w → CLr w (.slice A T.length c) T := fun w H => ⟨(H.oat hk).sl, fun _ he => pF_row hj he w H⟩
set_option maxRecDepth 20000 in
set_option maxHeartbeats 4000000 in
theorem SameConfirmed_S {va vb : Value} {T U : List Pf} (h : prf T = prf U) (ha : ∀ w, Sat b F w → CLr w va T) (hb : ∀ w, Sat b F w → CLr w vb U) (h32 : ∀ e ∈ T, len32 e.ids) (hm : T.length ≤ 67108864) : SC Tryz.prog n_entrepotkit_SameConfirmed [va, vb] b F (fun v F' => v = .bool true ∧ F' = F) := by
 have hlen : T.length = U.length := by have := congrArg List.length h; rwa [prf, prf, List.length_map, List.length_map] at this
 refine enterS F_entrepotkit_SameConfirmed rfl rfl rfl ?_
 refine sw_fact (fun w H => sl_form (ha w H).sl) ?_
 rintro ⟨A, c, rfl, h1, h2, h3, h4, _⟩
 refine sw_fact (fun w H => sl_form (hb w H).sl) ?_
 rintro ⟨B, d, rfl, q1, q2, q3, q4, _⟩
 (refine sw_seq (sw_region ?_); refine so_1 rfl ?_; refine so_nil (sn_then ?_); refine sw_seq (sw_region ?_); (iterate 6 refine so_1 rfl ?_); refine so_nil (sn_then ?_); (iterate 2 refine sw_seq ?_); refine sw_region ?_; refine so_1 rfl ?_; refine so_nil (sn_then ?_); refine sw_block ?_)
 refine sw_know 5 (.bool true) rfl (congrArg Value.bool (decide_eq_true (by omega))) ?_
 refine sw_loop (S := Nat) (fun i => [(0, .slice A T.length c), (1, .slice B U.length d), (5, .bool true), (6, .int .i64 (i : Int))]) (fun _ => F) (fun i => i ≤ T.length) (fun i => T.length - i) 0 ⟨rfl, rfl, rfl, rfl, trivial⟩ (Ent.refl _) (Nat.zero_le _) ?_
 intro i hi
 ((iterate 2 refine sw_seq ?_); refine sw_region ?_; (iterate 7 refine so_1 rfl ?_); refine so_nil (sn_then ?_))
 refine sw_if rfl (fun g1 => ?_) (fun g1 => ?_)
 ·have g1' : i < T.length := by omega
  have g2' : i < U.length := by omega
  obtain ⟨gA, oA, rfl⟩ := h4 (by omega)
  obtain ⟨gB, oB, rfl⟩ := q4 (by omega)
  have ml := List.getElem_mem g1'
  have mm := List.getElem_mem g2'
  have ca : ∀ w, Sat b F w → ∀ j, j < 3 → w.cell? ⟨gA, oA + i * 3 + j, none⟩ = (cfC T[i])[j]? := fun w H j hj => fl_cell (f := cfC) (ha w H).sl (fun _ _ => rfl) g1' hj
  have cb : ∀ w, Sat b F w → ∀ j, j < 3 → w.cell? ⟨gB, oB + i * 3 + j, none⟩ = (cfC U[i])[j]? := fun w H j hj => fl_cell (f := cfC) (hb w H).sl (fun _ _ => rfl) g2' hj
  have ea : ∀ w, Sat b F w → SL w 32 T[i].v T[i].ids.length (idsC T[i].ids) := fun w H => (ha w H).er _ ml
  have eb : ∀ w, Sat b F w → SL w 32 U[i].v U[i].ids.length (idsC U[i].ids) := fun w H => (hb w H).er _ mm
  have heq : (T[i].d, T[i].ids) = (U[i].d, U[i].ids) := by
   have := congrArg (·[i]?) h
   simpa [prf, g1', g2'] using this
  have hx32 := h32 _ ml
  generalize T[i] = x at *
  generalize U[i] = y at *
  have hd : x.d = y.d := congrArg Prod.fst heq
  have hids : x.ids = y.ids := congrArg Prod.snd heq
  (refine sw_skip ?_; refine sn_then ?_; refine sw_seq ?_; refine sw_block ?_)
  refine sw_draw flo _ (by decide +kernel) (Ent.refl _) ?_
  ((iterate 2 refine sd_1 rfl (.inl rfl) ?_); refine sd_2 rfl rfl (by omega) ?_; refine sd_1 rfl (.inl rfl) ?_)
  refine sd_rd rfl (fun w H => ex_loadN (cs := dC x.d) rfl rfl rfl rfl (fun j hj => by rw [mulz_eq, Int.toNat_natCast]; exact (ca w H j (Nat.lt_of_lt_of_le hj (by show (2 : Nat) ≤ 3; decide))).trans (by match j, hj with | 0, _ => rfl | 1, _ => rfl))) rfl rfl ?_
  ((iterate 2 refine sd_1 rfl (.inl rfl) ?_); refine sd_2 rfl rfl (by omega) ?_; refine sd_1 rfl (.inl rfl) ?_)
  refine sd_rd rfl (fun w H => ex_loadN (cs := dC y.d) rfl rfl rfl rfl (fun j hj => by rw [mulz_eq, Int.toNat_natCast]; exact (cb w H j (Nat.lt_of_lt_of_le hj (by show (2 : Nat) ≤ 3; decide))).trans (by match j, hj with | 0, _ => rfl | 1, _ => rfl))) rfl rfl ?_
  refine sd_pu rfl (pu_eqA rfl rfl (eq_dot _ _ _ _)) rfl rfl ?_
  refine sd_know 31 (.bool true) rfl (congrArg Value.bool (decide_eq_true ⟨by rw [hd], by rw [hd]⟩)) ?_
  ((iterate 3 refine sd_1 rfl (.inl rfl) ?_); refine sd_2 rfl rfl (by omega) ?_; refine sd_1 rfl (.inl rfl) ?_)
  refine sd_rd rfl (fun w H => ex_load rfl rfl rfl (by rw [mulz_eq, Int.toNat_natCast]; exact ca w H 2 (by decide))) rfl rfl ?_
  ((iterate 2 refine sd_1 rfl (.inl rfl) ?_); refine sd_2 rfl rfl (by omega) ?_; refine sd_1 rfl (.inl rfl) ?_)
  refine sd_rd rfl (fun w H => ex_load rfl rfl rfl (by rw [mulz_eq, Int.toNat_natCast]; exact cb w H 2 (by decide))) rfl rfl ?_
  refine sd_callE rfl rfl rfl rfl (SameIDs_D ea eb hx32 (by rw [← hids]; exact hx32)) (Ent.refl _) ?_
  rw [decide_eq_true hids]
  ((iterate 2 refine sd_1 rfl (.inl rfl) ?_))
  refine sd_nil ?_
  (refine sn_block ?_; refine sn_then ?_; refine sw_region ?_; refine so_1 rfl ?_; refine so_2 rfl (by (unfold I64; omega)) ?_; refine so_1 rfl ?_; refine so_nil ?_)
  refine sn_round (i + 1) ⟨rfl, rfl, rfl, rfl, trivial⟩ (Ent.refl _) (show i + 1 ≤ T.length by omega) (show T.length - (i + 1) < T.length - i by omega)
 ·(refine sw_exit ?_; refine sn_then_exit ?_; refine sn_loop_exit ?_; refine sn_block_exit ?_; refine sn_then ?_; refine sw_seq (sw_region ?_); (iterate 2 refine so_1 rfl ?_); refine so_nil (sn_then ?_); refine sw_ret ?_)
  refine sn_ret rfl (.tmp rfl .nil) (Ent.refl _) ?_
  exact ⟨rfl, rfl⟩
end

abbrev X1 (id : List Int) : BL := [(id, [97, 98, 99])]
def abdB : ByteArray := ⟨#[97, 98, 100]⟩
theorem px_refB {id : List Int} : refB (L1 id) (2, 1) id = true := decide_eq_true (by simp [pushE])
theorem px_put {id : List Int} (h : PX id) : putXe [] id [97, 98, 99] 32 100 = 0 := by
 rw [putXe, if_neg (by decide), if_pos h.dA]; rfl
theorem px_abd {id : List Int} (h : PX id) : shipB (L1 id) [] [] (2, 1) id [97, 98, 100] 32 100 = false ∧ shipE (L1 id) [] (2, 1) id [97, 98, 100] 32 100 = 8 ∧ shipC (L1 id) [] [] (2, 1) id [97, 98, 100] 32 100 = [] ∧ shipX (L1 id) [] (2, 1) id [97, 98, 100] 32 100 = [] := by
 have hp : putXe [] id [97, 98, 100] 32 100 = 8 := by rw [putXe, if_neg (by decide), if_neg h.nd]
 have hB : shipB (L1 id) [] [] (2, 1) id [97, 98, 100] 32 100 = false := by rw [shipB, hp]; simp
 refine ⟨hB, ?_, ?_, ?_⟩
 ·rw [shipE, if_neg (show ¬ ((findW (2, 1) (L1 id)).isNone = true) from fun h => (by cases h)), if_neg (by rw [px_refB]; decide), hp]
 ·rw [shipC, hB]; rfl
 ·rw [shipX, px_refB, if_pos rfl, putX, putXb, hp]; rfl
theorem px_nil {id : List Int} (h : PX id) : shipB (L1 id) [] [] (2, 1) (sumM []) [97, 98, 99] 32 100 = false ∧ shipE (L1 id) [] (2, 1) (sumM []) [97, 98, 99] 32 100 = 2 ∧ shipC (L1 id) [] [] (2, 1) (sumM []) [97, 98, 99] 32 100 = [] ∧ shipX (L1 id) [] (2, 1) (sumM []) [97, 98, 99] 32 100 = [] := by
 have hne := h.ne
 generalize sumM [] = z at *
 have hr : refB (L1 id) (2, 1) z = false := decide_eq_false (by simp [pushE, hne])
 have hB : shipB (L1 id) [] [] (2, 1) z [97, 98, 99] 32 100 = false := by rw [shipB, hr]; rfl
 refine ⟨hB, ?_, ?_, ?_⟩
 ·rw [shipE, if_neg (show ¬ ((findW (2, 1) (L1 id)).isNone = true) from fun h => (by cases h)), if_pos hr]
 ·rw [shipC, hB]; rfl
 ·rw [shipX, hr]; rfl
theorem px_off {id : List Int} : shipB (L1 id) [] [] (1, 1) id [97, 98, 99] 32 100 = false ∧ shipE (L1 id) [] (1, 1) id [97, 98, 99] 32 100 = 0 ∧ shipC (L1 id) [] [] (1, 1) id [97, 98, 99] 32 100 = [] ∧ shipX (L1 id) [] (1, 1) id [97, 98, 99] 32 100 = [] := ⟨rfl, rfl, rfl, rfl⟩
theorem px_shipX {id : List Int} (h : PX id) : shipX (L1 id) [] (2, 1) id [97, 98, 99] 32 100 = X1 id := by
 rw [shipX, px_refB, if_pos rfl, putX, putXb, px_put h]; rfl
theorem px_two {id : List Int} (h : PX id) : shipB (L1 id) (C1 id) (X1 id) (2, 1) id [97, 98, 99] 32 100 = false ∧ shipE (L1 id) (X1 id) (2, 1) id [97, 98, 99] 32 100 = 0 ∧ shipC (L1 id) (C1 id) (X1 id) (2, 1) id [97, 98, 99] 32 100 = C1 id ∧ shipX (L1 id) (X1 id) (2, 1) id [97, 98, 99] 32 100 = X1 id := by
 have hf : findX id (X1 id) = some [97, 98, 99] := if_pos rfl
 have hp : putXe (X1 id) id [97, 98, 99] 32 100 = 0 := by
  rw [putXe, if_neg (by decide), if_pos h.dA, hf]; rfl
 have hc : cfm (2, 1) (C1 id) = [id] := rfl
 have hB : shipB (L1 id) (C1 id) (X1 id) (2, 1) id [97, 98, 99] 32 100 = false := by
  rw [shipB, hc]; simp
 refine ⟨hB, ?_, ?_, ?_⟩
 ·rw [shipE, if_neg (show ¬ ((findW (2, 1) (L1 id)).isNone = true) from fun h => (by cases h)), if_neg (by rw [px_refB]; decide), hp]
 ·rw [shipC, hB]; rfl
 ·rw [shipX, px_refB, if_pos rfl, putX, putXb, hf]; rfl
theorem px_state {id : List Int} : stateL (L1 id) (C1 id) = C1 id := rfl
theorem px_again {id : List Int} (h : PX id) (dv rv : Value) : gAddB [0, 1] [] 32 ((pushE id).own dv rv) 2 = false ∧ gAddE [0, 1] [] 32 ((pushE id).own dv rv) 2 = 0 := by
 have hc : chkE ((pushE id).own dv rv) (([0, 1] : List Int).length : Int) 32 = 0 := h.chk
 refine ⟨?_, ?_⟩
 ·rw [gAddB, if_pos hc]; rfl
 ·rw [gAddE, if_pos hc]; rfl
theorem sum0_ok : idOk (sumM []) := by
 have h : (sumM []).length = 32 ∧ (sumM []).all (fun x => (Lit.int .u8 x).wf) = true := by decide +kernel
 exact ⟨h.1, fun x hx => List.all_eq_true.1 h.2 x hx⟩
section
variable {b : World} {F : List SP}
set_option maxRecDepth 20000 in
set_option maxHeartbeats 16000000 in
theorem Known22_S : SC Tryz.prog n_entrepotlaw22_GateKnown [] b F (fun v F' => v = .bool true ∧ F' = F) := by
 have hx := idA_px
 have hpush : ∀ {F' : List SP}, SC Tryz.prog n_entrepotlaw22_push [] b F' (fun v G => ∃ dv rv, v = evV ((pushE idA).own dv rv) ∧ G = rZ dv [0, 0] :: rD rv [idA] :: F') := push_S
 have hsum : ∀ {F' : List SP}, SC Tryz.prog n_sha_Sum [.slice none 0 0] b F' (fun v G => v = idV (sumM []) ∧ G = F') := fun {F'} => Sum_S (xs := []) (by decide) (fun w _ => ⟨none, 0, rfl, rfl, Nat.le_refl _, by decide, fun _ => rfl, fun h => absurd h (by decide)⟩)
 have hz := sum0_ok
 generalize idA = id at hx hpush
 have pn := px_nil hx
 generalize sumM [] = z at hsum hz pn
 have h32 := hx.ok.1
 refine enterS F_entrepotlaw22_GateKnown rfl rfl rfl ?_
 (refine sw_seq (sw_region ?_); refine so_1 rfl ?_; refine so_nil (sn_then ?_); refine sw_seq (sw_region ?_))
 refine so_call rfl rfl rfl (made_nil (n := 2) (w := 32) (r := 100) (by decide) (by decide) (by unfold newOk; omega)) ?_
 rintro _ _ ⟨gg, gq, gs, rfl, rfl⟩
 ((iterate 7 refine so_1 rfl ?_); refine so_nil (sn_then ?_); (iterate 2 refine sw_seq ?_); refine sw_region ?_; (iterate 2 refine so_1 rfl ?_); refine so_nil (sn_then ?_); refine sw_cond_f rfl ?_; refine sw_skip ?_; refine sn_then ?_; refine sw_seq (sw_region ?_))
 refine so_call rfl rfl rfl (hpush) ?_
 rintro _ _ ⟨dv, rv, rfl, rfl⟩
 refine so_fact (fun w H => (H.oat (k := 0) rfl).form) ?_
 rintro ⟨A1, c1, rfl, _, _, _⟩
 refine so_fact (fun w H => (H.oat (k := 1) rfl).form) ?_
 rintro ⟨A2, c2, rfl, _, _, _⟩
 generalize hye : (pushE id).own (.slice A1 ([0, 0] : List Int).length c1) (.slice A2 [id].length c2) = e
 have e32 : e.id.length = 32 := by rw [← hye]; exact h32
 have eid : e.id = id := by rw [← hye]; rfl
 have edv : e.dv = .slice A1 ([0, 0] : List Int).length c1 := by rw [← hye]; rfl
 have erv : e.rv = .slice A2 [id].length c2 := by rw [← hye]; rfl
 have yl : (evC e).length = 39 := evC_len e32
 have y1 := evC_one (e := e) (by rw [edv]; rfl) (by rw [erv]; rfl)
 refine so_new rfl rfl rfl rfl rfl fun g4 => ?_
 refine so_stW 0 rfl rfl rfl rfl rfl rfl rfl yl y1 (by rw [yl]; rfl) ?_
 (refine so_nil (sn_then ?_); refine sw_seq (sw_region ?_); refine so_1 rfl ?_)
 refine so_ldA 0 rfl rfl rfl rfl rfl rfl (segO_all (by rw [yl]; rfl)) rfl ?_
 have hew := push_ew hx (.slice A1 ([0, 0] : List Int).length c1) (.slice A2 [id].length c2)
 have hel := push_el id (.slice A1 ([0, 0] : List Int).length c1) (.slice A2 [id].length c2)
 obtain ⟨a1, a2, a3⟩ := px_add hx (.slice A1 ([0, 0] : List Int).length c1) (.slice A2 [id].length c2)
 rw [hye] at hew hel a1 a2 a3
 have hdl : e.deps.length ≤ 1000000 := by rw [← hye]; show (2 : Nat) ≤ _; decide
 have hrl : e.refs.length ≤ 1000000 := by rw [← hye]; show (1 : Nat) ≤ _; decide
 have her : ∀ w, Sat b (pt g4 t_api_Event (evC e) :: rZ (.slice A1 ([0, 0] : List Int).length c1) [0, 0] :: rD (.slice A2 [id].length c2) [id] :: F) w → ER w e := fun w H => by
  rw [← hye]; exact ⟨vlZ (k := 1) rfl w H, (H.oat (k := 2) rfl).sl⟩
 refine so_call rfl rfl rfl ((Add_G (gg := gg) (gq := gq) (gs := gs) (n := 2) (w := 32) (r := 100) (V := [0, 0]) (L := []) (X := []) (C := []) (e := e) (s := 2) (F := pt g4 t_api_Event (evC e) :: rZ (.slice A1 ([0, 0] : List Int).length c1) [0, 0] :: rD (.slice A2 [id].length c2) [id] :: F) her hew hel hdl hrl).ent (ent_keep 6 [3, 4, 5, 0, 1, 2] rfl rfl)) ?_
 rw [a1, a2, a3]
 rintro _ _ ⟨rfl, rfl⟩
 ((iterate 5 refine so_1 rfl ?_); refine so_nil (sn_then ?_); (iterate 2 refine sw_seq ?_))
 have hdt : (.int .i64 e.r : Value) = .int .i64 2 ∧ (.int .i64 e.n : Value) = .int .i64 1 := by rw [← hye]; exact ⟨rfl, rfl⟩
 have s1 := ships_S (b := b) (gg := gg) (gq := gq) (gs := gs) (n := 2) (w := 32) (r := 100) (V := [0, 0]) (L := L1 id) (X := []) (C := []) (d := (2, 1)) (id := id) (s := abdB) (want := false) (err := 8) (F := pt g4 t_api_Event (evC e) :: rZ (.slice A1 ([0, 0] : List Int).length c1) [0, 0] :: rD (.slice A2 [id].length c2) [id] :: F) ck_nil rc_nil (by decide) hx.ok (by decide) (by decide)
 rw [show strI abdB = [97, 98, 100] from rfl, (px_abd hx).1, (px_abd hx).2.1, (px_abd hx).2.2.1, (px_abd hx).2.2.2] at s1
 have s2 := ships_S (b := b) (gg := gg) (gq := gq) (gs := gs) (n := 2) (w := 32) (r := 100) (V := [0, 0]) (L := L1 id) (X := []) (C := []) (d := (2, 1)) (id := z) (s := abcB) (want := false) (err := 2) (F := pt g4 t_api_Event (evC e) :: rZ (.slice A1 ([0, 0] : List Int).length c1) [0, 0] :: rD (.slice A2 [id].length c2) [id] :: F) ck_nil rc_nil (by decide) hz (by decide) (by decide)
 rw [show strI abcB = [97, 98, 99] from rfl, pn.1, pn.2.1, pn.2.2.1, pn.2.2.2] at s2
 have s3 := ships_S (b := b) (gg := gg) (gq := gq) (gs := gs) (n := 2) (w := 32) (r := 100) (V := [0, 0]) (L := L1 id) (X := []) (C := []) (d := (1, 1)) (id := id) (s := abcB) (want := false) (err := 0) (F := pt g4 t_api_Event (evC e) :: rZ (.slice A1 ([0, 0] : List Int).length c1) [0, 0] :: rD (.slice A2 [id].length c2) [id] :: F) ck_nil rc_nil (by decide) hx.ok (by decide) (by decide)
 rw [show strI abcB = [97, 98, 99] from rfl, (px_off (id := id)).1, (px_off (id := id)).2.1, (px_off (id := id)).2.2.1, (px_off (id := id)).2.2.2] at s3
 have s4 := ships_S (b := b) (gg := gg) (gq := gq) (gs := gs) (n := 2) (w := 32) (r := 100) (V := [0, 0]) (L := L1 id) (X := []) (C := []) (d := (2, 1)) (id := id) (s := abcB) (want := true) (err := 0) (F := pt g4 t_api_Event (evC e) :: rZ (.slice A1 ([0, 0] : List Int).length c1) [0, 0] :: rD (.slice A2 [id].length c2) [id] :: F) ck_nil rc_nil (by decide) hx.ok (by decide) (by decide)
 rw [show strI abcB = [97, 98, 99] from rfl, (px_ship hx).1, (px_ship hx).2.1, (px_ship hx).2.2, px_shipX hx] at s4
 have s5 := ships_S (b := b) (gg := gg) (gq := gq) (gs := gs) (n := 2) (w := 32) (r := 100) (V := [0, 0]) (L := L1 id) (X := X1 id) (C := C1 id) (d := (2, 1)) (id := id) (s := abcB) (want := false) (err := 0) (F := pt g4 t_api_Event (evC e) :: rZ (.slice A1 ([0, 0] : List Int).length c1) [0, 0] :: rD (.slice A2 [id].length c2) [id] :: F) (ck_one hx.ok) rc_one (by decide) hx.ok (by decide) (by decide)
 rw [show strI abcB = [97, 98, 99] from rfl, (px_two hx).1, (px_two hx).2.1, (px_two hx).2.2.1, (px_two hx).2.2.2] at s5
 refine sw_draw flo (pt g4 t_api_Event (evC e) :: F) (by decide +kernel) (ent_keep 6 [3] rfl rfl) ?_
 ((iterate 9 refine sd_1 rfl (.inl rfl) ?_); refine sd_l 0 rfl rfl rfl rfl ?_; refine sd_1 rfl (.inl rfl) ?_)
 refine sd_ldA 0 rfl rfl rfl rfl rfl rfl (evC_id e32) rfl rfl ?_
 refine sd_know 34 (.agg ⟨[.int .i64 2, .int .i64 1]⟩) rfl (by rw [hdt.1, hdt.2]) ?_
 refine sd_know 36 (idV id) rfl (by rw [eid]) ?_
 refine sd_call rfl rfl rfl rfl s1 ?_
 rintro _ _ ⟨rfl, rfl⟩
 refine ⟨ent_keep 6 [3] rfl rfl, ?_⟩
 refine sd_know 37 (.bool true) rfl rfl ?_
 ((iterate 5 refine sd_1 rfl (.inl rfl) ?_); refine sd_l 0 rfl rfl rfl rfl ?_)
 refine sd_know 43 (.agg ⟨[.int .i64 2, .int .i64 1]⟩) rfl (by rw [hdt.1, hdt.2]) ?_
 refine sd_callE rfl rfl rfl rfl hsum (ent_keep 6 [3] rfl rfl) ?_
 refine sd_call rfl rfl rfl rfl s2 ?_
 rintro _ _ ⟨rfl, rfl⟩
 refine ⟨ent_keep 6 [3] rfl rfl, ?_⟩
 refine sd_know 45 (.bool true) rfl rfl ?_
 ((iterate 6 refine sd_1 rfl (.inl rfl) ?_))
 refine sd_ldA 0 rfl rfl rfl rfl rfl rfl (evC_id e32) rfl rfl ?_
 refine sd_know 52 (idV id) rfl (by rw [eid]) ?_
 refine sd_call rfl rfl rfl rfl s3 ?_
 rintro _ _ ⟨rfl, rfl⟩
 refine ⟨ent_keep 6 [3] rfl rfl, ?_⟩
 refine sd_know 53 (.bool true) rfl rfl ?_
 ((iterate 2 refine sd_1 rfl (.inl rfl) ?_))
 refine sd_nil ?_
 (refine sn_then ?_; refine sw_cond_f rfl ?_; refine sw_skip ?_; refine sn_then ?_; (iterate 2 refine sw_seq ?_))
 have hDl : ∀ {F9 : List SP}, SC Tryz.prog n_p_gate_Gate_Deliver [.pointer (some ⟨gg, 0, none⟩)] b (gat gg gq gs (C1 id) :: que gq 2 [0, 0] (L1 id) :: F9) (fun u F' => ∃ A c D, D.map nE = [pushE id] ∧ u = .slice A D.length c ∧ F' = rEn A c D.length D :: all (evF D) :: gat gg gq gs [] :: que gq 2 [0, 1] [] :: F9) := fun {F9} => by
  have := Deliver_G (b := b) (F := F9) (gg := gg) (gq := gq) (gs := gs) (n := 2) (V := [0, 0]) (L := L1 id) (C := C1 id)
  rwa [px_dlv] at this
 have hSt : ∀ {F9 : List SP}, SC Tryz.prog n_p_gate_Gate_State [.pointer (some ⟨gg, 0, none⟩)] b (gat gg gq gs (C1 id) :: que gq 2 [0, 0] (L1 id) :: F9) (fun u F' => ∃ A c T, prf T = C1 id ∧ u = .slice A T.length c ∧ F' = rCn A c T.length T :: all (pF T) :: gat gg gq gs (C1 id) :: que gq 2 [0, 0] (L1 id) :: F9) := fun {F9} => by
  have := State_G (b := b) (F := F9) (gg := gg) (gq := gq) (gs := gs) (n := 2) (V := [0, 0]) (L := L1 id) (ck_one hx.ok)
  rwa [px_state] at this
 refine sw_preslide flo 18 17 [17] [19, 20, 21, 22, 23, 24, 25] (OT.pre (List.range' 26 15) .nil) (pt g4 t_api_Event (evC e) :: F) rfl (by decide +kernel) rfl rfl (ent_keep 6 [3] rfl rfl) ?_
 ((iterate 2 refine sd_1 rfl (.inl rfl) ?_); refine sd_l 0 rfl rfl rfl rfl ?_; refine sd_1 rfl (.inl rfl) ?_)
 refine sd_ldA 0 rfl rfl rfl rfl rfl rfl (evC_id e32) rfl rfl ?_
 refine sd_know 58 (.agg ⟨[.int .i64 2, .int .i64 1]⟩) rfl (by rw [hdt.1, hdt.2]) ?_
 refine sd_know 60 (idV id) rfl (by rw [eid]) ?_
 refine sd_call rfl rfl rfl rfl s4 ?_
 rintro _ _ ⟨rfl, rfl⟩
 refine ⟨ent_keep 6 [3] rfl rfl, ?_⟩
 refine sd_know 61 (.bool true) rfl rfl ?_
 ((iterate 4 refine sd_1 rfl (.inl rfl) ?_); refine sd_l 0 rfl rfl rfl rfl ?_; refine sd_1 rfl (.inl rfl) ?_)
 refine sd_ldA 0 rfl rfl rfl rfl rfl rfl (evC_id e32) rfl rfl ?_
 refine sd_know 66 (.agg ⟨[.int .i64 2, .int .i64 1]⟩) rfl (by rw [hdt.1, hdt.2]) ?_
 refine sd_know 68 (idV id) rfl (by rw [eid]) ?_
 refine sd_call rfl rfl rfl rfl s5 ?_
 rintro _ _ ⟨rfl, rfl⟩
 refine ⟨ent_keep 6 [3] rfl rfl, ?_⟩
 refine sd_know 69 (.bool true) rfl rfl ?_
 ((iterate 3 refine sd_1 rfl (.inl rfl) ?_))
 refine sd_nil ?_
 refine sn_slide (S' := Option Addr × Nat × List Pf × Nat × Nat) 17 1 rfl rfl rfl (ent_keep 6 [3] rfl rfl) (fun s => [(1, .pointer (some ⟨gg, 0, none⟩)), (4, .pointer (some ⟨g4, 0, none⟩)), (72, .bool false), (74, .slice s.1 s.2.2.1.length s.2.1), (81, .slice (some ⟨s.2.2.2.2, 0, none⟩) 1 1)])
  (fun s => pt s.2.2.2.2 t_api_Confirmed [.int .i64 2, .int .i64 1, .slice (some ⟨s.2.2.2.1, 0, none⟩) 1 1] :: pt s.2.2.2.1 t_api_ID (u8s id) :: rCn s.1 s.2.1 s.2.2.1.length s.2.2.1 :: all (pF s.2.2.1) :: gat gg gq gs (C1 id) :: que gq 2 [0, 0] (L1 id) :: sto gs 32 100 (X1 id) :: pt g4 t_api_Event (evC e) :: rZ (.slice A1 ([0, 0] : List Int).length c1) [0, 0] :: rD (.slice A2 [id].length c2) [id] :: F) (fun s => prf s.2.2.1 = C1 id) (fun s _ => ent_keep 10 [7] rfl rfl) ?_ (fun J => ?_)
 ·rintro ⟨A5, c5, T, gi, gl⟩ hT
  dsimp only at hT ⊢
  refine st_ops 26 15 _ rfl rfl ?_
  have hTl : T.length = 1 := by have := congrArg List.length hT; simpa [prf] using this
  have hT32 : ∀ e ∈ T, len32 e.ids := fun u hu => by
   have h1 : (u.d, u.ids) ∈ C1 id := by rw [← hT]; exact List.mem_map.2 ⟨u, hu, rfl⟩
   have h2 : u.ids = [id] := congrArg Prod.snd (List.mem_singleton.1 h1)
   rw [h2]; exact fun a ha => (by cases List.mem_singleton.1 ha; exact h32)
  refine sd_callE rfl rfl rfl rfl (SameConfirmed_S (T := T) (U := [⟨(2, 1), [id], .slice (some ⟨gi, 0, none⟩) 1 1⟩]) (hT.trans rfl) (rCn_cl (k := 2) (j := 3) rfl rfl) (fun w H => ⟨(H.blk (k := 0) rfl).sl rfl (by decide), fun u hu => by
   cases List.mem_singleton.1 hu
   have e2 : idsC [id] = u8s id := by simp [idsC]
   show SL w 32 (.slice (some ⟨gi, 0, none⟩) 1 1) 1 (idsC [id])
   rw [e2]; exact (H.blk (k := 1) rfl).sl (by rw [u8s_len, h32]) (by decide)⟩) hT32 (by omega)) (ent_keep 10 [7] rfl rfl) ?_
  ((iterate 4 refine sd_1 rfl (.inl rfl) ?_))
  refine sd_call rfl rfl rfl rfl (hDl.ent (ent_keep 10 [4, 5, 6, 7, 8, 9] rfl rfl)) ?_
  rintro _ _ ⟨A7, c7, D, hD, rfl, rfl⟩
  refine ⟨ent_keep 8 [5] rfl rfl, ?_⟩
  have hDl1 : D.length = 1 := by have := congrArg List.length hD; simpa using this
  rw [hDl1]
  ((iterate 5 refine sd_1 rfl (.inl rfl) ?_))
  refine sd_call rfl rfl rfl rfl ((State_G (gg := gg) (gq := gq) (gs := gs) (n := 2) (V := [0, 1]) (L := []) (C := []) (F := sto gs 32 100 (X1 id) :: pt g4 t_api_Event (evC e) :: rZ (.slice A1 ([0, 0] : List Int).length c1) [0, 0] :: rD (.slice A2 [id].length c2) [id] :: F) ck_nil).ent (ent_keep 8 [2, 3, 4, 5, 6, 7] rfl rfl)) ?_
  rintro _ _ ⟨A8, c8, U, hU, rfl, rfl⟩
  have hU0 : U = [] := by
   cases U with
   | nil => rfl
   | cons u U => cases hU
  subst hU0
  refine ⟨ent_keep 8 [5] rfl rfl, ?_⟩
  ((iterate 3 refine sd_1 rfl (.inl rfl) ?_))
  refine sd_nil (sn_last ?_)
  (refine sn_then ?_; refine sw_cond_f rfl ?_; refine sw_skip ?_; refine sn_then ?_; refine sw_seq (sw_region ?_); refine so_1 rfl ?_)
  refine so_ldA 5 rfl rfl rfl rfl rfl rfl (segO_all (by rw [yl]; rfl)) rfl ?_
  obtain ⟨b1, b2⟩ := px_again hx (.slice A1 ([0, 0] : List Int).length c1) (.slice A2 [id].length c2)
  rw [hye] at b1 b2
  refine so_call rfl rfl rfl ((Add_G (gg := gg) (gq := gq) (gs := gs) (n := 2) (w := 32) (r := 100) (V := [0, 1]) (L := []) (X := X1 id) (C := []) (e := e) (s := 2) (F := pt g4 t_api_Event (evC e) :: rZ (.slice A1 ([0, 0] : List Int).length c1) [0, 0] :: rD (.slice A2 [id].length c2) [id] :: F) her hew hel hdl hrl).ent (ent_keep 8 [2, 3, 4, 5, 6, 7] rfl rfl)) ?_
  rw [b1, b2]
  rintro _ _ ⟨rfl, rfl⟩
  ((iterate 5 refine so_1 rfl ?_); refine so_nil (sn_then ?_); refine sw_seq (sw_region ?_))
  refine so_callE rfl rfl rfl (New_Gq (fun A => none_nil)) ?_
  ((iterate 5 refine so_1 rfl ?_); refine so_nil (sn_then ?_); refine sw_seq (sw_region ?_))
  refine so_callE rfl rfl rfl (awake22_S) ?_
  ((iterate 13 refine so_1 rfl ?_); refine so_nil (sn_then ?_); refine sw_ret ?_)
  refine sn_ret rfl (.tmp rfl .nil) (ent_keep 6 [] rfl rfl) ?_
  exact ⟨rfl, rfl⟩
 ·(refine sd_1 rfl (.inl rfl) ?_)
  refine sd_nil ?_
  refine sn_t1run 19 4 (R2 := [23, 24, 25]) rfl rfl (by decide +kernel) rfl (ent_keep 6 [3] rfl rfl) ?_
  (refine sd_1 rfl (.inl rfl) ?_; refine sd_l 0 rfl rfl rfl rfl ?_; refine sd_1 rfl (.inl rfl) ?_)
  refine sd_ldA 0 rfl rfl rfl rfl rfl rfl (evC_id e32) rfl rfl ?_
  refine sd_know 76 (.agg ⟨[.int .i64 2, .int .i64 1]⟩) rfl (by rw [hdt.1, hdt.2]) ?_
  refine sd_know 78 (idV id) rfl (by rw [eid]) ?_
  refine sd_nil ?_
  refine sn_t1effG (R2 := [24, 25]) rfl rfl rfl rfl rfl (ent_keep 6 [3] rfl rfl) ?_ ?_
  ·refine sd_call rfl rfl rfl rfl hSt ?_
   rintro _ _ ⟨A5, c5, T, hT, rfl, rfl⟩
   refine ⟨ent_keep 8 [5] rfl rfl, ?_⟩
   refine sd_nil ?_
   refine sn_tx 23 3 rfl rfl (ent_keep 8 [5] rfl rfl) ?_
   refine sd_lit1 (cs := u8s id) rfl rfl rfl rfl rfl rfl rfl rfl (by rw [u8s_len, h32]; rfl) (by decide) (ent_keep 8 [5] rfl rfl) fun gi => ?_
   (refine sd_1 rfl (.inl rfl) ?_)
   refine sd_lit1 (cs := [.int .i64 2, .int .i64 1, .slice (some ⟨gi, 0, none⟩) 1 1]) rfl rfl rfl rfl rfl rfl rfl rfl rfl (by decide) (ent_keep 9 [6] rfl rfl) fun gl => ?_
   refine sd_nil ?_
   exact J (A5, c5, T, gi, gl) _ _ hT ⟨rfl, rfl, rfl, rfl, rfl, trivial⟩ (Ent.refl _)
  ·refine sd_lit1 (cs := u8s id) rfl rfl rfl rfl rfl rfl rfl rfl (by rw [u8s_len, h32]; rfl) (by decide) (ent_keep 6 [3] rfl rfl) fun gi => ?_
   refine sd_nil ?_
   refine sn_t1run 24 1 (R2 := [25]) rfl rfl (by decide +kernel) rfl (ent_keep 7 [4] rfl rfl) ?_
   (refine sd_1 rfl (.inl rfl) ?_)
   refine sd_nil ?_
   refine sn_t1effG (R2 := []) rfl rfl rfl rfl rfl (ent_keep 7 [4] rfl rfl) ?_ ?_
   ·refine sd_call rfl rfl rfl rfl (hSt.ent (ent_keep 7 [1, 2, 0, 3, 4, 5, 6] rfl rfl)) ?_
    rintro _ _ ⟨A5, c5, T, hT, rfl, rfl⟩
    refine ⟨ent_keep 9 [6] rfl rfl, ?_⟩
    refine sd_nil ?_
    refine sn_tx 25 1 rfl rfl (ent_keep 9 [6] rfl rfl) ?_
    refine sd_lit1 (cs := [.int .i64 2, .int .i64 1, .slice (some ⟨gi, 0, none⟩) 1 1]) rfl rfl rfl rfl rfl rfl rfl rfl rfl (by decide) (ent_keep 9 [6] rfl rfl) fun gl => ?_
    refine sd_nil ?_
    exact J (A5, c5, T, gi, gl) _ _ hT ⟨rfl, rfl, rfl, rfl, rfl, trivial⟩ (ent_keep 10 [0, 5, 1, 2, 3, 4, 6, 7, 8, 9] rfl rfl)
   ·refine sd_lit1 (cs := [.int .i64 2, .int .i64 1, .slice (some ⟨gi, 0, none⟩) 1 1]) rfl rfl rfl rfl rfl rfl rfl rfl rfl (by decide) (ent_keep 7 [4] rfl rfl) fun gl => ?_
    refine sd_nil ?_
    refine sn_t1nilG rfl rfl rfl rfl (ent_keep 8 [5] rfl rfl) ?_
    refine sd_call rfl rfl rfl rfl (hSt.ent (ent_keep 8 [2, 3, 0, 1, 4, 5, 6, 7] rfl rfl)) ?_
    rintro _ _ ⟨A5, c5, T, hT, rfl, rfl⟩
    refine ⟨ent_keep 10 [7] rfl rfl, ?_⟩
    refine sd_nil ?_
    exact J (A5, c5, T, gi, gl) _ _ hT ⟨rfl, rfl, rfl, rfl, rfl, trivial⟩ (ent_keep 10 [4, 5, 0, 1, 2, 3, 6, 7, 8, 9] rfl rfl)
end

structure Ag where
 kind : Int
 e : Ev
 frm : Int
 d : Int × Int
 id : List Int
 bv : Value
 bs : List Int
def agC (a : Ag) : List Value := .int .i64 a.kind :: (evC a.e ++ .int .i64 a.frm :: .int .i64 a.d.1 :: .int .i64 a.d.2 :: (u8s a.id ++ [a.bv]))
theorem agC_len {a : Ag} (h : a.e.id.length = 32) (hi : a.id.length = 32) : (agC a).length = 76 := by
 simp [agC, evC_len h, hi]
def ansN (is : Bool) (e : Int) : Int := if is = true then 1000 + e else e
section
variable {b : World} {F : List SP} {is : Bool} {e : Int} {v : Value} {xs : List Int}
theorem answer_S (he : 0 ≤ e ∧ e ≤ 100) : SC Tryz.prog n_entrepotlaw22_answer [.bool is, .int .i64 e] b F (fun u F' => u = .int .i64 (ansN is e) ∧ F' = F) := by
 refine enterS F_entrepotlaw22_answer rfl rfl rfl ?_
 (refine sw_seq (sw_region ?_); refine so_1 rfl ?_; refine so_nil (sn_then ?_); (iterate 2 refine sw_seq ?_); refine sw_region ?_; refine so_1 rfl ?_; refine so_nil (sn_then ?_))
 cases is with
 | true =>
  (refine sw_cond_t rfl ?_; refine sw_seq (sw_region ?_); refine so_1 rfl ?_; refine so_2 rfl (by (unfold I64; omega)) ?_; refine so_1 rfl ?_; refine so_nil (sn_then ?_); refine sw_ret ?_; refine sn_then_ret ?_)
  refine sn_ret rfl (.tmp rfl .nil) (Ent.refl _) ?_
  exact ⟨rfl, rfl⟩
 | false =>
  (refine sw_cond_f rfl ?_; refine sw_skip ?_; refine sn_then ?_; refine sw_seq (sw_region ?_); (iterate 2 refine so_1 rfl ?_); refine so_nil (sn_then ?_); refine sw_ret ?_)
  refine sn_ret rfl (.tmp rfl .nil) (Ent.refl _) ?_
  exact ⟨rfl, rfl⟩
set_option maxRecDepth 20000 in
theorem own22_S (hlen : xs.length ≤ 1000000) (hb : ∀ w, Sat b F w → VL (Value.int .u8) w v xs) : SC Tryz.prog n_entrepotlaw22_own [v] b F (fun u F' => u = idV (dg xs 2) ∧ F' = F) := by
 have hcl : (dg xs 2).length = 32 := (idOk_cut xs 2).1
 have hOf : ∀ {F' : List SP}, (∀ w, Sat b F' w → VL (Value.int .u8) w v xs) → SC Tryz.prog n_sha_Of [v, .int .i64 2] b F' (fun u G => u = .tuple ⟨[idV (dg xs 2), .int .i64 (cutE 2)]⟩ ∧ G = F') := fun h => Of_S (w := 2) hlen h
 generalize dg xs 2 = y at hcl hOf ⊢
 refine enterS F_entrepotlaw22_own rfl rfl rfl ?_
 (refine sw_seq (sw_region ?_))
 refine so_new rfl rfl rfl rfl rfl fun g2 => ?_
 (refine so_nil (sn_then ?_); refine sw_seq (sw_region ?_); refine so_1 rfl ?_)
 refine so_callE rfl rfl rfl (hOf (up hb (ent_keep 1 [] rfl rfl))) ?_
 ((iterate 3 refine so_1 rfl ?_))
 refine so_new rfl rfl rfl rfl rfl fun g3 => ?_
 refine so_stW 0 rfl rfl rfl rfl rfl rfl rfl (by rw [u8s_len, hcl]; rfl) (u8s_one _) (by simp [hcl]) ?_
 (refine so_1 rfl ?_; refine so_nil (sn_then ?_); refine sw_seq (sw_region ?_))
 refine so_ldA 0 rfl rfl rfl rfl rfl rfl (segID hcl) rfl ?_
 refine so_stW 1 rfl rfl rfl rfl rfl rfl rfl (by rw [u8s_len, hcl]; rfl) (u8s_one _) (by simp [hcl]) ?_
 (refine so_nil (sn_then ?_); refine sw_ret ?_)
 refine sn_ret rfl (.whole 1 rfl rfl rfl rfl (by rw [u8s_len, hcl]; rfl) .nil) (ent_keep 2 [] rfl rfl) ?_
 exact ⟨rfl, rfl⟩
end
structure GL (w : World) (v : Value) (l : List Ag) : Prop where
 sl : SL w 76 v l.length (flC agC l)
 er : ∀ a ∈ l, ER w a.e
 br : ∀ a ∈ l, VL (Value.int .u8) w a.bv a.bs
def LA (a : Ag) : Prop := LE a.e ∧ a.e.refs.length ≤ 20 ∧ a.bs.length ≤ 60
section
variable {b : World} {F : List SP} {v : Value} {l : List Ag}
theorem agC_ev {a : Ag} (h : a.e.id.length = 32) {j : Nat} (hj : j < 39) : (agC a)[1 + j]? = (evC a.e)[j]? := by
 unfold agC
 rw [Nat.add_comm, List.getElem?_cons_succ, List.getElem?_append_left (by rw [evC_len h]; exact hj)]
theorem agC_bv {a : Ag} (h : a.e.id.length = 32) (hi : a.id.length = 32) : (agC a)[75]? = some a.bv := by
 unfold agC
 rw [List.getElem?_cons_succ, List.getElem?_append_right (by rw [evC_len h]; omega), evC_len h]
 simp [hi]
set_option maxRecDepth 20000 in
set_option maxHeartbeats 4000000 in
theorem long22_S (hl : ∀ w, Sat b F w → GL w v l) (h32 : ∀ a ∈ l, a.e.id.length = 32 ∧ a.id.length = 32) :
  SC Tryz.prog n_entrepotlaw22_long [v] b F (fun u F' => ∃ q : Bool, (q = false → l.length ≤ 40 ∧ ∀ a ∈ l, LA a) ∧ u = .bool q ∧ F' = F) := by
 refine enterS F_entrepotlaw22_long rfl rfl rfl ?_
 refine sw_fact (fun w H => sl_form (hl w H).sl) ?_
 rintro ⟨A, c, rfl, _, _, _, k4, _⟩
 (refine sw_seq (sw_region ?_); refine so_1 rfl ?_; refine so_nil (sn_then ?_); (iterate 2 refine sw_seq ?_); refine sw_region ?_; refine so_1 rfl ?_; refine so_nil (sn_then ?_); refine sw_block ?_)
 refine sw_loop (S := Nat) (fun i => [(0, .slice A l.length c), (3, .int .i64 (i : Int))]) (fun _ => F) (fun i => i ≤ l.length ∧ i ≤ 41 ∧ ∀ k (hk : k < l.length), k < i → LA l[k]) (fun i => l.length - i) 0 ⟨rfl, rfl, trivial⟩ (Ent.refl _) ⟨Nat.zero_le _, by omega, fun k _ h => absurd h (Nat.not_lt_zero _)⟩ ?_
 rintro i ⟨i1, i2, i4⟩
 ((iterate 2 refine sw_seq ?_); refine sw_region ?_; (iterate 5 refine so_1 rfl ?_))
 by_cases h1 : i < l.length
 ·refine so_know 8 (.bool true) rfl (congrArg Value.bool (decide_eq_true (by omega))) ?_
  ((iterate 3 refine so_1 rfl ?_); refine so_nil (sn_then ?_))
  refine sw_if rfl (fun h2 => ?_) (fun h2 => ?_)
  ·obtain ⟨gg, oo, rfl⟩ := k4 (by omega)
   have hmem := List.getElem_mem h1
   have hc : ∀ w, Sat b F w → ∀ j, j < 76 → w.cell? ⟨gg, oo + i * 76 + j, none⟩ = (agC l[i])[j]? := fun w H j hj => fl_cell (f := agC) (hl w H).sl (fun a ha => agC_len (h32 a ha).1 (h32 a ha).2) h1 hj
   have her : ∀ w, Sat b F w → ER w l[i].e := fun w H => (hl w H).er _ hmem
   have hbr : ∀ w, Sat b F w → VL (Value.int .u8) w l[i].bv l[i].bs := fun w H => (hl w H).br _ hmem
   obtain ⟨hx32, hi32⟩ := h32 _ hmem
   have hnext : LA l[i] → ∀ k (hk : k < l.length), k < i + 1 → LA l[k] := fun h k hk hlt => by
    by_cases e : k = i
    ·subst e; exact h
    ·exact i4 k hk (by omega)
   generalize l[i] = x at *
   (refine sw_skip ?_; refine sn_then ?_; refine sw_seq ?_; refine sw_block ?_; refine sw_seq (sw_region ?_); (iterate 2 refine so_1 rfl ?_); refine so_2 rfl (by omega) ?_; refine so_1 rfl ?_)
   refine so_rd rfl (fun w H => ex_loadN (cs := evC x.e) rfl rfl rfl (evC_len hx32) (fun j hj => by rw [evC_len hx32] at hj; rw [mulz_eq, Int.toNat_natCast, Nat.add_assoc]; exact (hc w H (1 + j) (by omega)).trans (agC_ev hx32 hj))) rfl ?_
   refine so_call rfl rfl rfl (LongEvent_S hx32 her) ?_
   rintro _ _ ⟨q, hq, rfl, rfl⟩
   cases q with
   | true =>
    ((iterate 19 refine so_1 rfl ?_); refine so_nil (sn_then ?_); refine sw_cond_t rfl ?_; refine sw_seq (sw_region ?_); refine so_1 rfl ?_; refine so_nil (sn_then ?_); refine sw_ret ?_; refine sn_block_ret ?_; refine sn_then_ret ?_; refine sn_loop_ret ?_; refine sn_block_ret ?_; refine sn_then_ret ?_)
    refine sn_ret rfl (.tmp rfl .nil) (Ent.refl _) ?_
    exact ⟨true, (fun h => by cases h), rfl, rfl⟩
   | false =>
    have hle : LE x.e := hq rfl
    have hrl := hle.2.1
    refine so_fact (fun w H => sl_form (her w H).rv) ?_
    rintro ⟨A2, c2, hrv, _⟩
    refine so_fact (fun w H => (hbr w H).form) ?_
    rintro ⟨A3, c3, hbv, _⟩
    ((iterate 3 refine so_1 rfl ?_); refine so_2 rfl (by omega) ?_; (iterate 2 refine so_1 rfl ?_))
    refine so_rd rfl (fun w H => ex_load (v := x.e.rv) rfl rfl rfl (by rw [mulz_eq, Int.toNat_natCast]; exact (hc w H 39 (by omega)).trans ((agC_ev (a := x) hx32 (j := 38) (by omega)).trans (by rw [← nth_eq]; exact evC_rv hx32)))) rfl ?_
    refine so_know 26 (.slice A2 x.e.refs.length c2) rfl hrv ?_
    ((iterate 4 refine so_1 rfl ?_))
    by_cases hr : (20 : Int) < x.e.refs.length
    ·refine so_know 30 (.bool true) rfl (congrArg Value.bool (decide_eq_true hr)) ?_
     ((iterate 8 refine so_1 rfl ?_); refine so_nil (sn_then ?_); refine sw_cond_t rfl ?_; refine sw_seq (sw_region ?_); refine so_1 rfl ?_; refine so_nil (sn_then ?_); refine sw_ret ?_; refine sn_block_ret ?_; refine sn_then_ret ?_; refine sn_loop_ret ?_; refine sn_block_ret ?_; refine sn_then_ret ?_)
     refine sn_ret rfl (.tmp rfl .nil) (Ent.refl _) ?_
     exact ⟨true, (fun h => by cases h), rfl, rfl⟩
    refine so_know 30 (.bool false) rfl (congrArg Value.bool (decide_eq_false hr)) ?_
    ((iterate 2 refine so_1 rfl ?_); refine so_2 rfl (by omega) ?_; refine so_1 rfl ?_)
    refine so_rd rfl (fun w H => ex_load (v := x.bv) rfl rfl rfl (by rw [mulz_eq, Int.toNat_natCast]; exact (hc w H 75 (by omega)).trans (agC_bv (a := x) hx32 hi32))) rfl ?_
    refine so_know 35 (.slice A3 x.bs.length c3) rfl hbv ?_
    ((iterate 3 refine so_1 rfl ?_); refine so_nil (sn_then ?_))
    refine sw_if rfl (fun h3 => ?_) (fun h3 => ?_)
    ·(refine sw_seq (sw_region ?_); refine so_1 rfl ?_; refine so_nil (sn_then ?_); refine sw_ret ?_; refine sn_block_ret ?_; refine sn_then_ret ?_; refine sn_loop_ret ?_; refine sn_block_ret ?_; refine sn_then_ret ?_)
     refine sn_ret rfl (.tmp rfl .nil) (Ent.refl _) ?_
     exact ⟨true, (fun h => by cases h), rfl, rfl⟩
    ·(refine sw_skip ?_; refine sn_block ?_; refine sn_then ?_; refine sw_region ?_; refine so_1 rfl ?_; refine so_2 rfl (by (unfold I64; omega)) ?_; refine so_1 rfl ?_; refine so_nil ?_)
     refine sn_round (i + 1) ⟨rfl, rfl, trivial⟩ (Ent.refl _) ⟨h1, by omega, hnext ⟨hle, by omega, by omega⟩⟩ (show l.length - (i + 1) < l.length - i by omega)
  ·(refine sw_exit ?_; refine sn_then_exit ?_; refine sn_loop_exit ?_; refine sn_block_exit ?_; refine sn_then ?_; refine sw_seq (sw_region ?_); (iterate 4 refine so_1 rfl ?_); refine so_nil (sn_then ?_); refine sw_ret ?_)
   refine sn_ret rfl (.tmp rfl .nil) (Ent.refl _) ?_
   exact ⟨_, fun h => absurd (of_decide_eq_false h) (by omega), rfl, rfl⟩
 ·refine so_know 8 (.bool false) rfl (congrArg Value.bool (decide_eq_false (by omega))) ?_
  ((iterate 3 refine so_1 rfl ?_); refine so_nil (sn_then ?_); refine sw_cond_f rfl ?_; refine sw_exit ?_; refine sn_then_exit ?_; refine sn_loop_exit ?_; refine sn_block_exit ?_; refine sn_then ?_; refine sw_seq (sw_region ?_); (iterate 4 refine so_1 rfl ?_); refine so_nil (sn_then ?_); refine sw_ret ?_)
  refine sn_ret rfl (.tmp rfl .nil) (Ent.refl _) ?_
  refine ⟨_, fun h => ⟨by have := of_decide_eq_false h; omega, fun a ha => ?_⟩, rfl, rfl⟩
  obtain ⟨k, hk, rfl⟩ := List.mem_iff_getElem.1 ha
  exact i4 k hk (by omega)
end

theorem findX_app {id b : List Int} : ∀ {X : BL} (Y : BL), findX id X = some b → findX id (X ++ Y) = some b
 | [], _, h => by cases h
 | e :: X, Y, h => by
  rw [List.cons_append, findX]
  rw [findX] at h
  split at h
  ·rw [if_pos (by assumption)]; exact h
  ·rw [if_neg (by assumption)]; exact findX_app Y h
theorem findX_new {id b : List Int} : ∀ {X : BL}, findX id X = none → findX id (X ++ [(id, b)]) = some b
 | [], _ => if_pos rfl
 | e :: X, h => by
  rw [List.cons_append, findX]
  rw [findX] at h
  split at h
  ·cases h
  ·rw [if_neg (by assumption)]; exact findX_new h
theorem findX_put {id a b xs : List Int} {X : BL} {w r : Int} (h : findX id X = some b) : findX id (putX X a xs w r) = some b := by
 unfold putX; split
 ·exact findX_app _ h
 ·exact h
theorem findX_ship {id a b xs : List Int} {L : List Wn} {d : Int × Int} {X : BL} {w r : Int} (h : findX id X = some b) : findX id (shipX L X d a xs w r) = some b := by
 unfold shipX; split
 ·exact findX_put h
 ·exact h
theorem putXe_got {id xs : List Int} {X : BL} {w r : Int} (h : putXe X id xs w r = 0) : findX id (putX X id xs w r) = some xs ∧ dg xs w = id := by
 have h0 := h
 unfold putXe at h
 split at h
 ·cases h
 ·split at h
  ·rename_i hd
   refine ⟨?_, hd⟩
   cases hf : findX id X with
   | some y =>
    rw [hf] at h
    dsimp only at h
    split at h
    ·rename_i he; subst he; exact findX_put hf
    ·cases h
   | none =>
    have hb : putXb X id xs w r = true := by rw [putXb, hf, h0]; rfl
    rw [putX, if_pos hb]
    exact findX_new hf
  ·cases h
theorem cfm_none {d : Int × Int} : ∀ {C : CL}, d ∉ C.map (·.1) → cfm d C = []
 | [], _ => rfl
 | e :: C, h => by
  rw [List.map_cons, List.mem_cons, not_or] at h
  rw [cfm, if_neg (fun h1 => h.1 h1.symm)]
  exact cfm_none h.2
theorem cfm_del_ne {d d' : Int × Int} (h : d' ≠ d) : ∀ {C : CL}, cfm d' (delC d C) = cfm d' C
 | [] => rfl
 | e :: C => by
  rw [delC]
  split
  ·rename_i h1
   rw [cfm, if_neg (fun h2 => h (h2.symm.trans h1))]
  ·rw [cfm, cfm]
   split
   ·rfl
   ·exact cfm_del_ne h
theorem del_keys (d : Int × Int) : ∀ C : CL, ((delC d C).map (·.1)).Sublist (C.map (·.1))
 | [] => .slnil
 | e :: C => by
  rw [delC]
  split
  ·exact (List.Sublist.refl _).cons _
  ·exact (del_keys d C).cons_cons _
theorem cfm_del_self {d : Int × Int} : ∀ {C : CL}, (C.map (·.1)).Nodup → cfm d (delC d C) = []
 | [], _ => rfl
 | e :: C, h => by
  rw [List.map_cons, List.nodup_cons] at h
  rw [delC]
  split
  ·rename_i h1; subst h1; exact cfm_none h.1
  ·rename_i h1
   rw [cfm, if_neg h1]; exact cfm_del_self h.2
theorem cfm_put_self (d : Int × Int) (ids : List (List Int)) : ∀ C : CL, cfm d (putC d ids C) = ids
 | [] => if_pos rfl
 | e :: C => by
  rw [putC]
  split
  ·exact if_pos rfl
  ·rename_i h1; rw [cfm, if_neg h1]; exact cfm_put_self d ids C
theorem cfm_put_ne {d d' : Int × Int} (h : d' ≠ d) (ids : List (List Int)) : ∀ C : CL, cfm d' (putC d ids C) = cfm d' C
 | [] => if_neg fun h1 => h h1.symm
 | e :: C => by
  rw [putC]
  split
  ·rename_i h1
   rw [cfm, if_neg fun h2 => h h2.symm, cfm, if_neg fun h2 => h (h2.symm.trans h1)]
  ·rw [cfm, cfm]
   split
   ·rfl
   ·exact cfm_put_ne h ids C
theorem put_keys (d : Int × Int) (ids : List (List Int)) : ∀ C : CL, (C.map (·.1)).Nodup → ((putC d ids C).map (·.1)).Nodup ∧ ∀ k ∈ (putC d ids C).map (·.1), k = d ∨ k ∈ C.map (·.1)
 | [], _ => ⟨by simp [putC], by simp [putC]⟩
 | e :: C, h => by
  rw [List.map_cons, List.nodup_cons] at h
  rw [putC]
  split
  ·rename_i h1; subst h1
   exact ⟨by rw [List.map_cons, List.nodup_cons]; exact h, fun k hk => .inr hk⟩
  ·rename_i h1
   obtain ⟨h2, h3⟩ := put_keys d ids C h.2
   rw [List.map_cons, List.nodup_cons]
   refine ⟨⟨fun h4 => ?_, h2⟩, fun k hk => ?_⟩
   ·rcases h3 _ h4 with h5 | h5
    ·exact h1 h5
    ·exact h.1 h5
   ·rcases List.mem_cons.1 hk with rfl | hk
    ·exact .inr (by simp)
    ·rcases h3 k hk with h5 | h5
     ·exact .inl h5
     ·exact .inr (by rw [List.map_cons]; exact List.mem_cons_of_mem _ h5)
theorem cmpM_self (x : List Int) : cmpM x x = 0 := by have := cb_flip (u8l x) (u8l x); show Lib.compareBytes _ _ = 0; omega
theorem Rise.nodup {l : List (List Int)} (h : Rise l) : l.Nodup := h.imp fun {a c} h1 h2 => by rw [h2, cmpM_self] at h1; omega
theorem insD_mem {id x : List Int} {l : List (List Int)} : x ∈ insD id l ↔ x = id ∨ x ∈ l := by
 unfold insD
 rw [List.mem_append, List.mem_cons, List.mem_filter, List.mem_filter]
 by_cases h : cmpM x id < 0
 ·simp [h, or_comm]
 ·simp [h]
theorem Rise.ins {id : List Int} {l : List (List Int)} (h : Rise l) (hl : ∀ x ∈ l, byteW x) (hi : byteW id) (hn : id ∉ l) : Rise (insD id l) := by
 have lt2 : ∀ a ∈ l, ¬ cmpM a id < 0 → cmpM id a < 0 := fun a ha h1 => by
  have h2 : cmpM a id = -cmpM id a := cb_flip _ _
  have h3 : cmpM a id ≠ 0 := fun h4 => hn (by rw [← (cmpM_zero (hl a ha) hi).1 h4]; exact ha)
  omega
 refine List.pairwise_append.2 ⟨List.Pairwise.filter _ h, List.pairwise_cons.2 ⟨fun a ha => ?_, List.Pairwise.filter _ h⟩, fun a ha c hc => ?_⟩
 ·rw [List.mem_filter] at ha
  exact lt2 a ha.1 (by simpa using ha.2)
 ·rw [List.mem_filter] at ha
  have h1 := of_decide_eq_true ha.2
  rcases List.mem_cons.1 hc with rfl | hc
  ·exact h1
  ·rw [List.mem_filter] at hc
   exact cmpM_trans (hl a ha.1) (hl c hc.1) h1 (lt2 c hc.1 (by simpa using hc.2))
theorem all_in {α : Type} [DecidableEq α] {l r : List α} (hn : l.Nodup) (hs : ∀ x ∈ l, x ∈ r) (hl : l.length = r.length) : ∀ m ∈ r, m ∈ l := fun m hm => by
 by_cases h : m ∈ l
 ·exact h
 ·have := sub_len (l := m :: l) (l' := r) (List.nodup_cons.2 ⟨h, hn⟩) fun x hx => by
   rcases List.mem_cons.1 hx with rfl | hx
   ·exact hm
   ·exact hs x hx
  rw [List.length_cons] at this
  omega
structure GI (n : Nat) (w : Int) (V : List Int) (L : List Wn) (C : CL) (X : BL) : Prop where
 q : QI n V L
 nd : (C.map (·.1)).Nodup
 ref : ∀ d, ∀ x ∈ cfm d C, refB L d x = true
 rise : RC' C
 ids : ∀ d, ∀ x ∈ cfm d C, idOk x
 got : ∀ d, ∀ x ∈ cfm d C, ∃ b, findX x X = some b ∧ dg b w = x
theorem refB_some {L : List Wn} {d : Int × Int} {x : List Int} (h : refB L d x = true) : ∃ y, findW d L = some y ∧ x ∈ y.e.refs := by
 unfold refB at h
 split at h
 ·rename_i y hy; exact ⟨y, hy, of_decide_eq_true h⟩
 ·cases h
theorem refB_of {L : List Wn} {d : Int × Int} {x : List Int} {y : Wn} (h : findW d L = some y) (hx : x ∈ y.e.refs) : refB L d x = true := by rw [refB, h]; exact decide_eq_true hx
section
variable {n : Nat} {w : Int} {V : List Int} {L : List Wn} {C : CL} {X : BL} (h : GI n w V L C X)
include h
theorem GI.ck : CK C := fun d => ⟨h.ids d, by
 cases hc : cfm d C with
 | nil => decide
 | cons x l =>
  obtain ⟨y, hy, _⟩ := refB_some (h.ref d x (by rw [hc]; exact List.mem_cons_self))
  have h1 := sub_len (l := cfm d C) (l' := y.e.refs) (h.rise d).nodup fun z hz => by
   obtain ⟨y', hy', hz'⟩ := refB_some (h.ref d z hz)
   rw [hy] at hy'; cases hy'; exact hz'
  have h2 := h.q.rf y (findW_some hy).1
  rw [← hc]; omega⟩
theorem GI.ship {d : Int × Int} {id xs : List Int} {r : Int} (hid : idOk id) : GI n w V L (shipC L C X d id xs w r) (shipX L X d id xs w r) := by
 have hg : ∀ d', ∀ x ∈ cfm d' C, ∃ b, findX x (shipX L X d id xs w r) = some b ∧ dg b w = x := fun d' x hx => by
  obtain ⟨b, h1, h2⟩ := h.got d' x hx
  exact ⟨b, findX_ship h1, h2⟩
 unfold shipC
 split
 ·rename_i hB
  have hB' := hB
  simp only [shipB, Bool.and_eq_true, decide_eq_true_eq, Bool.not_eq_true', decide_eq_false_iff_not] at hB'
  obtain ⟨⟨hr, hp⟩, hc⟩ := hB'
  obtain ⟨g1, g2⟩ := putXe_got hp
  have key : ∀ d', ∀ x ∈ cfm d' (putC d (insD id (cfm d C)) C), (d' = d ∧ x = id) ∨ x ∈ cfm d' C := fun d' x hx => by
   by_cases hd : d' = d
   ·subst hd
    rw [cfm_put_self] at hx
    rcases insD_mem.1 hx with hx | hx
    ·exact .inl ⟨rfl, hx⟩
    ·exact .inr hx
   ·rw [cfm_put_ne hd] at hx; exact .inr hx
  refine ⟨h.q, (put_keys d _ C h.nd).1, fun d' x hx => ?_, fun d' => ?_, fun d' x hx => ?_, fun d' x hx => ?_⟩
  ·rcases key d' x hx with ⟨rfl, rfl⟩ | hx
   ·exact hr
   ·exact h.ref d' x hx
  ·by_cases hd : d' = d
   ·subst hd
    rw [cfm_put_self]
    exact (h.rise _).ins (fun x hx => idOk_byte (h.ids _ x hx)) (idOk_byte hid) hc
   ·rw [cfm_put_ne hd]; exact h.rise d'
  ·rcases key d' x hx with ⟨rfl, rfl⟩ | hx
   ·exact hid
   ·exact h.ids d' x hx
  ·rcases key d' x hx with ⟨rfl, rfl⟩ | hx
   ·exact ⟨xs, by rw [shipX, if_pos hr]; exact g1, g2⟩
   ·exact hg d' x hx
 ·exact ⟨h.q, h.nd, h.ref, h.rise, h.ids, hg⟩
theorem GI.add {e : Ev} {s : Int} (hew : EW e) (hl : e.refs.length ≤ 1000000) : GI n w V (gAddL V L w e s) C X := by
 have hq : QI n V (gAddL V L w e s) := by
  unfold gAddL; split
  ·exact h.q.add hew hl
  ·exact h.q
 refine ⟨hq, h.nd, fun d x hx => ?_, h.rise, h.ids, h.got⟩
 obtain ⟨y, hy, hx'⟩ := refB_some (h.ref d x hx)
 obtain ⟨hm, hd⟩ := findW_some hy
 suffices ∃ y' ∈ gAddL V L w e s, y'.e = y.e by
  obtain ⟨y', h1, h2⟩ := this
  exact refB_of (findW_of hq.nd h1 (by rw [dotW, h2]; exact hd)) (by rw [h2]; exact hx')
 unfold gAddL
 split
 ·unfold addL
  split
  ·exact ⟨y, hm, rfl⟩
  ·split
   ·exact ⟨_, List.mem_map.2 ⟨y, hm, rfl⟩, setS_e _ _ _⟩
   ·split
    ·exact ⟨y, hm, rfl⟩
    ·exact ⟨y, (insL_perm _ L).symm.subset (List.mem_cons_of_mem _ hm), rfl⟩
 ·exact ⟨y, hm, rfl⟩
end
inductive Dls (w : Int) (X : BL) : List Int → List Ev → List Int → Prop
 | nil (V : List Int) : Dls w X V [] V
 | cons {V V' : List Int} {e : Ev} {D : List Ev} (h1 : hasL V e.r e.n = false) (h2 : leqL e.deps V = true) (h3 : withL V e.r e.n = advV V e.r e.n) (h4 : ∀ m ∈ e.refs, ∃ b, findX m X = some b ∧ dg b w = m) (h5 : EW e) (h : Dls w X (advV V e.r e.n) D V') : Dls w X V (e :: D) V'
theorem Dls.app {w : Int} {X : BL} {V V1 V2 : List Int} {D D2 : List Ev} (h : Dls w X V D V1) (h' : Dls w X V1 D2 V2) : Dls w X V (D ++ D2) V2 := by
 induction h with
 | nil V => exact h'
 | cons h1 h2 h3 h4 h5 _ ih => exact .cons h1 h2 h3 h4 h5 (ih h')
section
variable {n : Nat} {w : Int} {X : BL}
theorem GI.one {V : List Int} {L : List Wn} {C : CL} {d : Int × Int} {l : List (Int × Int)} (h : GI n w V L C X) (hr : readyL V L C = d :: l) :
  GI n w (advV V d.1 d.2) (delW d L) (delC d C) X ∧ (delW d L).length < L.length ∧ ∀ {D V'}, Dls w X (advV V d.1 d.2) D V' → Dls w X V (evAt d L :: D) V' := by
 have hm : d ∈ readyL V L C := by rw [hr]; exact List.mem_cons_self
 obtain ⟨hm1, hm2⟩ := List.mem_filter.1 hm
 obtain ⟨x, hx, hle, rfl⟩ := ripes_mem h.q hm1
 have hxm := (findW_some hx).1
 rw [wholeB, hx] at hm2
 have hlen : (cfm (dotW x) C).length = x.e.refs.length := of_decide_eq_true hm2
 obtain ⟨r1, r2, r3, r4, r5⟩ := h.q.ripe hxm hle
 have hev : evAt (dotW x) L = nE x.e := by rw [evAt, hx]
 have hin : ∀ m ∈ x.e.refs, m ∈ cfm (dotW x) C := all_in (h.rise _).nodup (fun z hz => by
  obtain ⟨y, hy, hz'⟩ := refB_some (h.ref _ z hz)
  rw [hx] at hy; cases hy; exact hz') hlen
 refine ⟨⟨h.q.del hxm hle, (del_keys _ C).nodup h.nd, fun d' z hz => ?_, fun d' => ?_, fun d' z hz => ?_, fun d' z hz => ?_⟩, delW_lt hx, fun {D V'} hD => ?_⟩
 ·by_cases hd : d' = dotW x
  ·subst hd; rw [cfm_del_self h.nd] at hz; cases hz
  ·rw [cfm_del_ne hd] at hz
   obtain ⟨y, hy, hz'⟩ := refB_some (h.ref _ z hz)
   obtain ⟨hy1, hy2⟩ := findW_some hy
   exact refB_of (findW_of (h.q.del hxm hle).nd (delW_mem.2 ⟨hy1, by rw [hy2]; exact hd⟩) hy2) hz'
 ·by_cases hd : d' = dotW x
  ·subst hd; rw [cfm_del_self h.nd]; exact List.Pairwise.nil
  ·rw [cfm_del_ne hd]; exact h.rise d'
 ·by_cases hd : d' = dotW x
  ·subst hd; rw [cfm_del_self h.nd] at hz; cases hz
  ·rw [cfm_del_ne hd] at hz; exact h.ids d' z hz
 ·by_cases hd : d' = dotW x
  ·subst hd; rw [cfm_del_self h.nd] at hz; cases hz
  ·rw [cfm_del_ne hd] at hz; exact h.got d' z hz
 ·rw [hev]
  refine .cons (h.q.new x hxm) hle ?_ (fun m hm => h.got _ m (hin m hm)) ((h.q.ew x hxm).own _ _) hD
  exact withL_adv h.q.num (by rw [h.q.len]; exact h.q.n2) r1 r2 r3 (by show atL V x.e.r < x.e.n; omega)
theorem GI.dlv : ∀ (k : Nat) {V : List Int} {L : List Wn} {C : CL}, GI n w V L C X → GI n w (dlv k V L C).2.1 (dlv k V L C).2.2.1 (dlv k V L C).2.2.2 X ∧ Dls w X V (dlv k V L C).1 (dlv k V L C).2.1 ∧ (dlv k V L C).1.length ≤ k ∧ (L.length ≤ k → readyL (dlv k V L C).2.1 (dlv k V L C).2.2.1 (dlv k V L C).2.2.2 = [])
 | 0, V, L, C, h => by
  refine ⟨h, .nil V, Nat.le_refl _, fun hk => ?_⟩
  obtain rfl : L = [] := List.length_eq_zero_iff.1 (by omega)
  refine ready_nil fun e he => ?_
  obtain ⟨x, hx, _⟩ := ripes_mem h.q he
  cases hx
 | k + 1, V, L, C, h => by
  cases hr : readyL V L C with
  | nil =>
   rw [dlv_stop hr]
   exact ⟨h, .nil V, Nat.zero_le _, fun _ => hr⟩
  | cons d l =>
   obtain ⟨h1, h2, h3⟩ := h.one hr
   obtain ⟨i1, i2, i3, i4⟩ := GI.dlv k h1
   rw [dlv_go hr]
   exact ⟨i1, h3 i2, by simpa using i3, fun hk => i4 (by omega)⟩
theorem GI.dlvG {V : List Int} {L : List Wn} {C : CL} (h : GI n w V L C X) : GI n w (dlvG V L C).2.1 (dlvG V L C).2.2.1 (dlvG V L C).2.2.2 X ∧ Dls w X V (dlvG V L C).1 (dlvG V L C).2.1 ∧ (dlvG V L C).1.length ≤ 100000 ∧ readyL (dlvG V L C).2.1 (dlvG V L C).2.2.1 (dlvG V L C).2.2.2 = [] := by
 obtain ⟨h1, h2, h3, h4⟩ := GI.dlv L.length h
 exact ⟨h1, h2, Nat.le_trans h3 h.q.many, h4 (Nat.le_refl _)⟩
end
theorem GI.start {n : Nat} {w : Int} (h1 : 1 ≤ n) (h2 : n ≤ 16) (X : BL) : GI n w (List.replicate n 0) [] [] X := ⟨QI.start h1 h2, List.nodup_nil, fun d x hx => (by cases hx), fun d => List.Pairwise.nil, fun d x hx => (by cases hx), fun d x hx => (by cases hx)⟩
structure Gs where
 V : List Int
 L : List Wn
 C : CL
 X : BL
def astN (w r : Int) (a : Ag) (g : Gs) : Int := if a.kind = 0 then ansN (gAddB g.V g.L w a.e a.frm) (gAddE g.V g.L w a.e a.frm) else if a.kind = 1 then ansN (shipB g.L g.C g.X a.d a.id a.bs w r) (shipE g.L g.X a.d a.id a.bs w r) else 0
def astO (w r : Int) (a : Ag) (g : Gs) : Bool := if a.kind = 0 then decide (gAddE g.V g.L w a.e a.frm ≠ 10) else if a.kind = 1 then decide (shipE g.L g.X a.d a.id a.bs w r ≠ 10) && decide (shipE g.L g.X a.d a.id a.bs w r ≠ 9) else true
def astD (a : Ag) (g : Gs) : List Ev := if a.kind = 0 then [] else if a.kind = 1 then [] else (dlvG g.V g.L g.C).1
def astS (w r : Int) (a : Ag) (g : Gs) : Gs := if a.kind = 0 then ⟨g.V, gAddL g.V g.L w a.e a.frm, g.C, g.X⟩ else if a.kind = 1 then ⟨g.V, g.L, shipC g.L g.C g.X a.d a.id a.bs w r, shipX g.L g.X a.d a.id a.bs w r⟩ else ⟨(dlvG g.V g.L g.C).2.1, (dlvG g.V g.L g.C).2.2.1, (dlvG g.V g.L g.C).2.2.2, g.X⟩
abbrev GS (n : Nat) (w : Int) (g : Gs) : Prop := GI n w g.V g.L g.C g.X
theorem GS.step {n : Nat} {w r : Int} {a : Ag} {g : Gs} (h : GS n w g) (hew : EW a.e) (hl : a.e.refs.length ≤ 1000000) (hid : idOk a.id) : GS n w (astS w r a g) ∧ Dls w (astS w r a g).X g.V (astD a g) (astS w r a g).V ∧ (astD a g).length ≤ 100000 := by
 unfold astS astD
 split
 ·exact ⟨h.add hew hl, .nil _, Nat.zero_le _⟩
 ·split
  ·exact ⟨h.ship hid, .nil _, Nat.zero_le _⟩
  ·exact ⟨h.dlvG.1, h.dlvG.2.1, h.dlvG.2.2.1⟩


structure AW (a : Ag) : Prop where
 ew : EW a.e
 el : EvL a.e
 dl : a.e.deps.length ≤ 1000000
 rl : a.e.refs.length ≤ 1000000
 d : dotOk a.d
 id : idOk a.id
 bw : byteW a.bs
 bl : a.bs.length ≤ 1000000
theorem segO_skip : ∀ (p : List Value) {l : List Value} {k o n : Nat}, p.length = k → segO (p ++ l) (k + o) n = segO l o n
 | [], l, k, o, n, h => by subst h; simp
 | c :: p, l, k, o, n, h => by
  obtain ⟨k, rfl⟩ : ∃ m, k = m + 1 := ⟨k - 1, by simp only [List.length_cons] at h; omega⟩
  rw [List.cons_append, show k + 1 + o = (k + o) + 1 by omega]
  have := segO_skip p (l := l) (k := k) (o := o) (n := n) (by simp only [List.length_cons] at h; omega)
  rw [← this]
  cases n <;> rfl
section
variable {a : Ag} (h : a.e.id.length = 32) (hi : a.id.length = 32)
include h
theorem agC_e : segO (agC a) 1 39 = some (evC a.e) := segO_front _ (evC_len h)
theorem agC_rest {o n : Nat} : segO (agC a) (40 + o) n = segO (.int .i64 a.frm :: .int .i64 a.d.1 :: .int .i64 a.d.2 :: (u8s a.id ++ [a.bv])) o n := by
 rw [show agC a = (.int .i64 a.kind :: evC a.e) ++ (.int .i64 a.frm :: .int .i64 a.d.1 :: .int .i64 a.d.2 :: (u8s a.id ++ [a.bv])) from rfl]
 exact segO_skip _ (by rw [List.length_cons, evC_len h])
theorem agC_frm : nth (agC a) 40 = some (.int .i64 a.frm) := by
 rw [nth_eq, agC, List.getElem?_cons_succ, List.getElem?_append_right (by rw [evC_len h]; omega), evC_len h]; rfl
theorem agC_d : segO (agC a) 41 2 = some [.int .i64 a.d.1, .int .i64 a.d.2] := (agC_rest h (o := 1) (n := 2)).trans (segO_front (l := [.int .i64 a.d.1, .int .i64 a.d.2]) _ rfl)
include hi
theorem agC_id : segO (agC a) 43 32 = some (u8s a.id) := (agC_rest h (o := 3) (n := 32)).trans (segO_front _ (by rw [u8s_len, hi]))
theorem agC_b : nth (agC a) 75 = some a.bv := by rw [nth_eq]; exact agC_bv h hi
end
def stpR (gg gq gs n : Nat) (w r : Int) (a : Ag) (g : Gs) (u : Value) (F' F : List SP) : Prop :=
 ∃ A c D, D.map nE = astD a g ∧ u = .tuple ⟨[.int .i64 (astN w r a g), .slice A D.length c, .bool (astO w r a g)]⟩ ∧ F' = rEn A c D.length D :: all (evF D) :: gat gg gq gs (astS w r a g).C :: que gq n (astS w r a g).V (astS w r a g).L :: sto gs w r (astS w r a g).X :: F
section
variable {b : World} {F : List SP} {gg gq gs n : Nat} {w r : Int} {a : Ag} {g : Gs}
theorem ent_evs {G : List SP} : Ent G (rEn none 0 0 [] :: all (evF []) :: G) := ((ent_close (G := [])).trans (ent_row_nil t_api_Event 39 rfl))
theorem chk_rng (e : Ev) (n w : Int) : 0 ≤ chkE e n w ∧ chkE e n w ≤ 100 := by
 have h1 : 0 ≤ tagE e ∧ tagE e ≤ 100 := by
  unfold tagE
  repeat' split
  all_goals omega
 have h2 : 0 ≤ idE e w ∧ idE e w ≤ 100 := by
  unfold idE
  repeat' split
  all_goals omega
 have h3 : ∀ q, 0 ≤ refsE e q w ∧ refsE e q w ≤ 100 := fun q => by
  unfold refsE
  repeat' split
  all_goals omega
 have h4 := h3 (decide (e.kind = 1 ∨ e.kind = 3))
 unfold chkE
 repeat' split
 all_goals omega
theorem gAddE_rng (V : List Int) (L : List Wn) (w : Int) (e : Ev) (s : Int) : 0 ≤ gAddE V L w e s ∧ gAddE V L w e s ≤ 100 := by
 have h1 := chk_rng e V.length w
 unfold gAddE addE
 repeat' split
 all_goals omega
theorem shipE_rng (L : List Wn) (X : BL) (d : Int × Int) (id xs : List Int) (w r : Int) : 0 ≤ shipE L X d id xs w r ∧ shipE L X d id xs w r ≤ 100 := by
 unfold shipE putXe
 repeat' split
 all_goals omega
set_option maxRecDepth 20000 in
set_option maxHeartbeats 4000000 in
theorem step_S (hA : AW a) (hG : GS n w g) (hr : r ≤ 67108864) (he : ∀ w, Sat b F w → ER w a.e) (hb : ∀ w, Sat b F w → VL (Value.int .u8) w a.bv a.bs) :
  SC Tryz.prog n_entrepotlaw22_step [.pointer (some ⟨gg, 0, none⟩), .agg ⟨agC a⟩] b (gat gg gq gs g.C :: que gq n g.V g.L :: sto gs w r g.X :: F) (fun u F' => stpR gg gq gs n w r a g u F' F) := by
 have h32 := hA.ew.l32
 have hi32 := hA.id.1
 have al := agC_len h32 hi32
 obtain ⟨V, L, C, X⟩ := g
 have hck := hG.ck
 have hri := hG.rise
 dsimp only at hck hri ⊢
 refine enterS F_entrepotlaw22_step rfl rfl rfl ?_
 (refine sw_seq (sw_region ?_))
 refine so_box rfl rfl rfl rfl rfl fun g3 => ?_
 ((iterate 3 refine so_1 rfl ?_); refine so_nil (sn_then ?_); (iterate 2 refine sw_seq ?_); refine sw_region ?_; refine so_1 rfl ?_; refine so_l 0 rfl rfl rfl ?_; refine so_nil (sn_then ?_); refine sw_block ?_; refine sw_seq (sw_region ?_); (iterate 2 refine so_1 rfl ?_); refine so_nil (sn_then ?_))
 by_cases k0 : a.kind = 0
 ·refine sw_know 13 (.bool true) rfl (congrArg Value.bool (decide_eq_true k0)) ?_
  (refine sw_cond_t rfl ?_; refine sw_seq (sw_region ?_); (iterate 2 refine so_1 rfl ?_))
  refine so_ldA 0 rfl rfl rfl rfl rfl rfl (agC_e h32) rfl ?_
  (refine so_1 rfl ?_)
  refine so_ld 0 rfl rfl rfl rfl rfl rfl (agC_frm h32) rfl ?_
  refine so_call rfl rfl rfl ((Add_G (gg := gg) (gq := gq) (gs := gs) (n := n) (w := w) (r := r) (V := V) (L := L) (X := X) (C := C) (e := a.e) (s := a.frm) (F := pt g3 t_entrepotlaw22_Act (agC a) :: F) (up he (ent_keep 1 [] rfl rfl)) hA.ew hA.el hA.dl hA.rl).ent (ent_keep 4 [1, 2, 3, 0] rfl rfl)) ?_
  rintro _ _ ⟨rfl, rfl⟩
  ((iterate 5 refine so_1 rfl ?_); refine so_nil (sn_then ?_); refine sw_seq (sw_region ?_); (iterate 2 refine so_1 rfl ?_))
  refine so_callE rfl rfl rfl (answer_S (gAddE_rng V L w a.e a.frm)) ?_
  ((iterate 5 refine so_1 rfl ?_); refine so_nil (sn_then ?_); refine sw_ret ?_; refine sn_block_ret ?_; refine sn_then_ret ?_)
  refine sn_ret rfl (.tmp rfl (.tmp rfl (.tmp rfl .nil))) ((ent_keep 4 [0, 1, 2] rfl rfl).trans ent_evs) ?_
  refine ⟨none, 0, [], by rw [astD, if_pos k0]; rfl, ?_, ?_⟩
  ·rw [astN, astO, if_pos k0, if_pos k0]
   show tupl _ = _
   simp [tupl]
  ·rw [astS, if_pos k0]; rfl
 refine sw_know 13 (.bool false) rfl (congrArg Value.bool (decide_eq_false k0)) ?_
 (refine sw_cond_f rfl ?_; refine sw_seq (sw_region ?_); (iterate 2 refine so_1 rfl ?_); refine so_nil (sn_then ?_))
 by_cases k1 : a.kind = 1
 ·refine sw_know 29 (.bool true) rfl (congrArg Value.bool (decide_eq_true k1)) ?_
  (refine sw_cond_t rfl ?_; refine sw_seq (sw_region ?_); (iterate 2 refine so_1 rfl ?_))
  refine so_ldA 0 rfl rfl rfl rfl rfl rfl (agC_d h32) rfl ?_
  (refine so_1 rfl ?_)
  refine so_ldA 0 rfl rfl rfl rfl rfl rfl (agC_id h32 hi32) rfl ?_
  (refine so_1 rfl ?_)
  refine so_ld 0 rfl rfl rfl rfl rfl rfl (agC_b h32 hi32) rfl ?_
  refine so_call rfl rfl rfl ((Ship_G (gg := gg) (gq := gq) (gs := gs) (n := n) (w := w) (r := r) (V := V) (L := L) (X := X) (C := C) (d := a.d) (id := a.id) (xs := a.bs) (F := pt g3 t_entrepotlaw22_Act (agC a) :: F) hck hri hA.d hA.id hr (up hb (ent_keep 1 [] rfl rfl)) hA.bw hA.bl).ent (ent_keep 4 [1, 2, 3, 0] rfl rfl)) ?_
  rintro _ _ ⟨rfl, rfl⟩
  ((iterate 5 refine so_1 rfl ?_); refine so_nil (sn_then ?_); refine sw_seq (sw_region ?_); (iterate 2 refine so_1 rfl ?_))
  refine so_callE rfl rfl rfl (answer_S (shipE_rng L X a.d a.id a.bs w r)) ?_
  ((iterate 3 refine so_1 rfl ?_))
  by_cases e10 : shipE L X a.d a.id a.bs w r = 10
  ·refine so_know 47 (.bool false) rfl (by simp [e10]) ?_
   ((iterate 6 refine so_1 rfl ?_); refine so_nil (sn_then ?_); refine sw_ret ?_; refine sn_block_ret ?_; refine sn_then_ret ?_)
   refine sn_ret rfl (.tmp rfl (.tmp rfl (.tmp rfl .nil))) ((ent_keep 4 [0, 1, 2] rfl rfl).trans ent_evs) ?_
   refine ⟨none, 0, [], by rw [astD, if_neg k0, if_pos k1]; rfl, ?_, ?_⟩
   ·rw [astN, astO, if_neg k0, if_neg k0, if_pos k1, if_pos k1]
    dsimp only
    rw [decide_eq_false (p := shipE L X a.d a.id a.bs w r ≠ 10) (fun h => h e10)]
    rfl
   ·rw [astS, if_neg k0, if_pos k1]; rfl
  ·refine so_know 47 (.bool true) rfl (by simp [e10]) ?_
   ((iterate 6 refine so_1 rfl ?_); refine so_nil (sn_then ?_); refine sw_ret ?_; refine sn_block_ret ?_; refine sn_then_ret ?_)
   refine sn_ret rfl (.tmp rfl (.tmp rfl (.tmp rfl .nil))) ((ent_keep 4 [0, 1, 2] rfl rfl).trans ent_evs) ?_
   refine ⟨none, 0, [], by rw [astD, if_neg k0, if_pos k1]; rfl, ?_, ?_⟩
   ·rw [astN, astO, if_neg k0, if_neg k0, if_pos k1, if_pos k1]
    dsimp only
    rw [decide_eq_true (p := shipE L X a.d a.id a.bs w r ≠ 10) e10, Bool.true_and]
    show tupl _ = _
    simp [tupl]
   ·rw [astS, if_neg k0, if_pos k1]; rfl
 refine sw_know 29 (.bool false) rfl (congrArg Value.bool (decide_eq_false k1)) ?_
 (refine sw_cond_f rfl ?_; refine sw_skip ?_; refine sn_block ?_; refine sn_then ?_; refine sw_seq (sw_region ?_); refine so_1 rfl ?_)
 refine so_call rfl rfl rfl ((Deliver_G (gg := gg) (gq := gq) (gs := gs) (n := n) (V := V) (L := L) (C := C) (F := sto gs w r X :: pt g3 t_entrepotlaw22_Act (agC a) :: F)).ent (ent_keep 4 [1, 2, 3, 0] rfl rfl)) ?_
 rintro _ _ ⟨A, c, D, hD, rfl, rfl⟩
 ((iterate 3 refine so_1 rfl ?_); refine so_nil (sn_then ?_); refine sw_ret ?_)
 refine sn_ret rfl (.tmp rfl (.tmp rfl (.tmp rfl .nil))) (ent_keep 6 [0, 1, 2, 3, 4] rfl rfl) ?_
 refine ⟨A, c, D, by rw [astD, if_neg k0, if_neg k1]; exact hD, ?_, ?_⟩
 ·rw [astN, astO, if_neg k0, if_neg k0, if_neg k1, if_neg k1]; rfl
 ·rw [astS, if_neg k0, if_neg k1]
end
section
variable {b : World} {F : List SP} {w r : Int}
end

theorem GL.ext {w w' : World} {v : Value} {l : List Ag} (h : GL w v l) (x : Ext w w') : GL w' v l := ⟨h.sl.ext x, fun m hm => (h.er m hm).ext x, fun m hm => (h.br m hm).ext x⟩
structure GLs (W : World) (v : Value) (l : List Ag) : Prop where
 gl : GL W v l
 ew : ∀ a ∈ l, EW a.e
 d : ∀ a ∈ l, dotOk a.d
 id : ∀ a ∈ l, idOk a.id
 bw : ∀ a ∈ l, byteW a.bs
 fr : ∀ a ∈ l, I64 a.frm
abbrev rdAg : Rdg (Int × ((Int × Int) × (Value × List Int) × Int × ByteArray × ByteArray × List Int × (Value × List (List Int))) × Int × (Int × Int) × List Int × (Value × List Int)) :=
 rdN 1 (rdI .i64) (rdN 39 rdEv (rdN 1 (rdI .i64) (rdN 2 (rdN 1 (rdI .i64) (rdI .i64)) (rdN 32 (Go.Eng.rdA 32 .u8) (rdL 1 (rdI .u8))))))
def agOf (x : Int × ((Int × Int) × (Value × List Int) × Int × ByteArray × ByteArray × List Int × (Value × List (List Int))) × Int × (Int × Int) × List Int × (Value × List Int)) : Ag := ⟨x.1, evOf x.2.1, x.2.2.1, x.2.2.2.1, x.2.2.2.2.1, x.2.2.2.2.2.1, x.2.2.2.2.2.2⟩
theorem gls_of_rd {W : World} {v : Value} {x : Value × List _} (h : rdL 76 rdAg W [v] x) : GLs W v (x.2.map agOf) := by
 obtain ⟨h1, h2, h3⟩ := rdL_flat (g := agOf) (f := agC) (p := fun a => EW a.e ∧ ER W a.e ∧ dotOk a.d ∧ idOk a.id ∧ byteW a.bs ∧ VL (Value.int .u8) W a.bv a.bs ∧ I64 a.frm) (fun cs x hx => by
  obtain ⟨⟨hx1, _⟩, hx2, ⟨hx3, hx3'⟩, ⟨⟨a1, a2⟩, a3, a4⟩, ⟨b1, b2, b3⟩, hx6⟩ := hx
  obtain ⟨e1, e2, e3⟩ := ev_of_rd hx2
  obtain ⟨c1, c2, c3⟩ := rdI_list hx6
  exact ⟨cut_eq hx1 (cut_eq e1 (cut_eq hx3 (cut_eq (cut_eq a1 a3) (cut_eq b1 c1)))), e2, e3, ⟨a2, a4⟩, ⟨b2, b3⟩, byteW_of c3, c2, i64wf' hx3'⟩) h
 simp only [List.cons.injEq, and_true] at h1
 subst h1
 exact ⟨⟨h2, fun m hm => (h3 m hm).2.1, fun m hm => (h3 m hm).2.2.2.2.2.1⟩, fun m hm => (h3 m hm).1, fun m hm => (h3 m hm).2.2.1, fun m hm => (h3 m hm).2.2.2.1, fun m hm => (h3 m hm).2.2.2.2.1, fun m hm => (h3 m hm).2.2.2.2.2.2⟩
theorem GLs.aw {W : World} {v : Value} {l : List Ag} (h : GLs W v l) {a : Ag} (ha : a ∈ l) (hl : LA a) : AW a := by
 obtain ⟨⟨q1, q2, q3, q4⟩, q5, q6⟩ := hl
 exact ⟨h.ew a ha, ⟨by omega, by omega, by omega, by omega⟩, by omega, by omega, h.d a ha, h.id a ha, h.bw a ha, by omega⟩
section
variable {b : World} {F : List SP}
theorem evF_one {l : List Ev} {k : Nat} (hk : nth F k = some (all (evF l))) : ∀ w, Sat b F w → ∀ m ∈ l, m.dv.oneCell' = true ∧ m.rv.oneCell' = true := fun w H m hm => by
 have h0 := evF_er hk hm w H
 obtain ⟨A, c, hv, _⟩ := h0.dv.form
 obtain ⟨A2, c2, hv2, _⟩ := sl_form h0.rv
 rw [hv, hv2]; exact ⟨rfl, rfl⟩
theorem sto_ln {k gs : Nat} {w0 r : Int} {X : BL} (hk : nth F k = some (sto gs w0 r X)) : ∀ w, Sat b F w → ∀ e ∈ X, e.2.length ≤ 4100 := fun w H e he => by
 obtain ⟨h1, _, s, hs, _⟩ := H.mem.get hk
 have h2 := hs.2
 rw [← h2] at he
 obtain ⟨x, hx, rfl⟩ := List.mem_map.1 he
 exact hs.1.ln x hx
theorem ent_evF {A B : List Ev} : Ent (all (evF A) :: all (evF B) :: F) (all (evF (A ++ B)) :: F) := by
 rw [evF_app]
 exact ent_open.trans (ent_in (.refl _))
end
theorem findX_mem {id b : List Int} : ∀ {X : BL}, findX id X = some b → (id, b) ∈ X
 | [], h => by cases h
 | e :: X, h => by
  rw [findX] at h
  split at h
  ·rename_i h1; cases h; exact List.mem_cons.2 (.inl (by rw [← h1]))
  ·exact List.mem_cons_of_mem _ (findX_mem h)
theorem Dls.ews {w : Int} {X : BL} {V V' : List Int} {D : List Ev} (h : Dls w X V D V') : ∀ e ∈ D, EW e := by
 induction h with
 | nil => intro e he; cases he
 | cons _ _ _ _ h5 _ ih =>
  intro e he
  rcases List.mem_cons.1 he with rfl | he
  ·exact h5
  ·exact ih e he
theorem EW.of_nE {e : Ev} (h : EW (nE e)) : EW e := ⟨h.id, h.dot, h.rf, h.kind, h.dp, h.rs, h.ts⟩
theorem dls_at {w : Int} {X : BL} {V V' : List Int} {D : List Ev} {k : Nat} (h : Dls w X V ((D.drop k).map nE) V') (hk : k < D.length) : hasL V D[k].r D[k].n = false ∧ leqL D[k].deps V = true ∧ withL V D[k].r D[k].n = advV V D[k].r D[k].n ∧ (∀ m ∈ D[k].refs, ∃ b, findX m X = some b ∧ dg b w = m) ∧ Dls w X (advV V D[k].r D[k].n) ((D.drop (k + 1)).map nE) V' := by
 rw [List.drop_eq_getElem_cons hk, List.map_cons] at h
 cases h with
 | cons h1 h2 h3 h4 _ h => exact ⟨h1, h2, h3, h4, h⟩
set_option maxRecDepth 20000 in
set_option maxHeartbeats 2000000 in
theorem walk_GateWhole {W : World} {n : Int} {v : Value} {l : List Ag} (h : GLs W v l) : Calls Tryz.prog n_entrepotlaw22_GateWhole #[.int .i64 n, v] W (fun e w' => e = .returned (.bool true) ∧ Ext W w') := by
 refine law_of (args := [.int .i64 n, v]) ?_
 have hl : ∀ {F : List SP} {k : Nat}, nth F k = some (Is W) → ∀ w, Sat W F w → GL w v l := fun hk w H => h.gl.ext (H.is hk)
 have h32 : ∀ a ∈ l, a.e.id.length = 32 ∧ a.id.length = 32 := fun a ha => ⟨(h.ew a ha).l32, (h.id a ha).1⟩
 obtain ⟨A0, c0, rfl, _, _, _, k4, _⟩ := sl_form h.gl.sl
 refine enterS F_entrepotlaw22_GateWhole rfl rfl rfl ?_
 (refine sw_seq (sw_region ?_); refine so_1 rfl ?_; refine so_nil (sn_then ?_); refine sw_seq (sw_region ?_))
 refine so_callE rfl rfl rfl (Known22_S) ?_
 (refine so_1 rfl ?_; refine so_nil (sn_then ?_); (iterate 2 refine sw_seq ?_); refine sw_region ?_; refine so_1 rfl ?_)
 refine so_call rfl rfl rfl (long22_S (hl (k := 0) rfl) h32) ?_
 rintro _ _ ⟨q, hq, rfl, rfl⟩
 cases q with
 | true =>
  (refine so_nil (sn_then ?_); refine sw_cond_t rfl ?_; refine sw_seq (sw_region ?_); (iterate 2 refine so_1 rfl ?_); refine so_nil (sn_then ?_); refine sw_ret ?_; refine sn_then_ret ?_)
  refine sn_ret rfl (.tmp rfl .nil) (Ent.refl _) ?_
  exact ⟨rfl, rfl⟩
 | false =>
 obtain ⟨hl40, hla⟩ := hq rfl
 (refine so_nil (sn_then ?_); refine sw_cond_f rfl ?_; refine sw_skip ?_; refine sn_then ?_; refine sw_seq (sw_region ?_); refine so_1 rfl ?_)
 refine so_callE rfl rfl rfl (Pick_S (by unfold I64; omega)) ?_
 obtain ⟨m, hm⟩ : ∃ m : Nat, 1 + (if (16 : Int) ≤ 0 then 0 else n % 16) = (m : Int) := ⟨(1 + n % 16).toNat, by rw [if_neg (by omega)]; omega⟩
 have hm16 : 1 ≤ m ∧ m ≤ 16 := by rw [if_neg (by omega)] at hm; omega
 (refine so_2 rfl (by (unfold I64; omega)) ?_; refine so_1 rfl ?_; refine so_nil (sn_then ?_); refine sw_seq (sw_region ?_); refine so_1 rfl ?_)
 refine so_know 24 (.int .i64 m) rfl (congrArg (Value.int .i64) hm) ?_
 refine so_know 26 (.int .i64 m) rfl (congrArg (Value.int .i64) hm) ?_
 refine so_know 0 (.int .i64 m) rfl (congrArg (Value.int .i64) hm) ?_
 clear hm
 skip
 refine so_call rfl rfl rfl (made_nil (n := m) (w := 2) (r := 2000) hm16.1 hm16.2 (by unfold newOk; omega)) ?_
 rintro _ _ ⟨gg, gq, gs, rfl, rfl⟩
 ((iterate 7 refine so_1 rfl ?_); refine so_nil (sn_then ?_); (iterate 2 refine sw_seq ?_); refine sw_region ?_; (iterate 2 refine so_1 rfl ?_); refine so_nil (sn_then ?_); refine sw_cond_f rfl ?_; refine sw_skip ?_; refine sn_then ?_; refine sw_seq (sw_region ?_); refine so_1 rfl ?_)
 refine so_make (sz := 1) (n := m) (cs := ints (List.replicate m 0)) rfl rfl rfl rfl rfl rfl rfl rfl rfl (by omega) (by rw [ints, List.map_replicate]; exact made_one _ _) fun g9 => ?_
 refine so_ent (G := rZ (.slice (some ⟨g9, 0, none⟩) m m) (List.replicate m 0) :: gat gg gq gs [] :: que gq m (List.replicate m 0) [] :: sto gs 2 2000 [] :: [Is W]) (by rw [rZ, List.length_replicate]; exact Ent.refl _) ?_
 (refine so_1 rfl ?_; refine so_nil (sn_then ?_); (iterate 2 refine sw_seq ?_); refine sw_region ?_; refine so_1 rfl ?_; refine so_nil (sn_then ?_); refine sw_block ?_)
 refine sw_loop (S := Nat × Gs × Option Addr × Nat) (fun s => [(1, .slice A0 l.length c0), (5, .bool true), (6, .pointer (some ⟨gg, 0, none⟩)), (7, .pointer (some ⟨gq, 0, none⟩)), (8, .pointer (some ⟨gs, 0, none⟩)), (9, .slice s.2.2.1 m s.2.2.2), (10, .int .i64 (s.1 : Int))])
  (fun s => gat gg gq gs s.2.1.C :: que gq m s.2.1.V s.2.1.L :: sto gs 2 2000 s.2.1.X :: rZ (.slice s.2.2.1 m s.2.2.2) s.2.1.V :: [Is W]) (fun s => s.1 ≤ l.length ∧ GS m 2 s.2.1) (fun s => l.length - s.1) (0, ⟨List.replicate m 0, [], [], []⟩, some ⟨g9, 0, none⟩, m) ⟨rfl, rfl, rfl, rfl, rfl, rfl, rfl, trivial⟩ (ent_keep 4 [1, 2, 3, 0] rfl rfl) ⟨Nat.zero_le _, GI.start hm16.1 hm16.2 []⟩ ?_
 rintro ⟨i, g, A9, c9⟩ ⟨hi, hG⟩
 dsimp only at hi hG ⊢
 ((iterate 2 refine sw_seq ?_); refine sw_region ?_; (iterate 4 refine so_1 rfl ?_); refine so_nil (sn_then ?_))
 by_cases h1 : i < l.length
 rotate_left
 ·refine sw_know 38 (.bool false) rfl (congrArg Value.bool (decide_eq_false (by omega))) ?_
  (refine sw_cond_f rfl ?_; refine sw_exit ?_; refine sn_then_exit ?_; refine sn_loop_exit ?_; refine sn_block_exit ?_; refine sn_then ?_; refine sw_seq (sw_region ?_); (iterate 2 refine so_1 rfl ?_); refine so_nil (sn_then ?_); refine sw_ret ?_)
  refine sn_ret rfl (.tmp rfl .nil) (ent_keep 5 [4] rfl rfl) ?_
  exact ⟨rfl, rfl⟩
 refine sw_know 38 (.bool true) rfl (congrArg Value.bool (decide_eq_true (by omega))) ?_
 obtain ⟨bk, off, rfl⟩ := k4 (by omega)
 have hmem := List.getElem_mem h1
 have hc : ∀ {F : List SP} {k : Nat}, nth F k = some (Is W) → ∀ w, Sat W F w → ∀ j, j < 76 → w.cell? ⟨bk, off + i * 76 + j, none⟩ = (agC l[i])[j]? := fun hk w H j hj => fl_cell (hl hk w H).sl (fun a ha => agC_len (h32 a ha).1 (h32 a ha).2) h1 hj
 have her : ∀ {F : List SP} {k : Nat}, nth F k = some (Is W) → ∀ w, Sat W F w → ER w l[i].e := fun hk w H => (hl hk w H).er _ hmem
 have hbr : ∀ {F : List SP} {k : Nat}, nth F k = some (Is W) → ∀ w, Sat W F w → VL (Value.int .u8) w l[i].bv l[i].bs := fun hk w H => (hl hk w H).br _ hmem
 have hA := h.aw hmem (hla _ hmem)
 generalize l[i] = x at *
 have hxl := agC_len hA.ew.l32 hA.id.1
 (refine sw_cond_t rfl ?_; refine sw_skip ?_; refine sn_then ?_; refine sw_seq ?_; refine sw_block ?_; refine sw_seq (sw_region ?_); (iterate 3 refine so_1 rfl ?_); refine so_2 rfl (by omega) ?_)
 refine so_rd rfl (fun w H => ex_loadN (cs := agC x) rfl rfl rfl hxl (fun j hj => by rw [hxl] at hj; rw [mulz_eq, idx_lt]; exact hc (k := 4) rfl w H j hj)) rfl ?_
 refine so_call rfl rfl rfl (step_S (gg := gg) (gq := gq) (gs := gs) (n := m) (w := 2) (r := 2000) (g := g) hA hG (by decide) (her (k := 1) rfl) (hbr (k := 1) rfl)) ?_
 rintro _ _ ⟨A1, c1, D1, hD1, rfl, rfl⟩
 obtain ⟨hG1, hd1, hn1⟩ := hG.step (r := 2000) (a := x) hA.ew hA.rl hA.id
 have hD1l : D1.length ≤ 100000 := by have := congrArg List.length hD1; rw [List.length_map] at this; omega
 rw [← hD1] at hd1
 have hV0 : g.V.length = m := hG.q.len
 generalize astN 2 2000 x g = ans
 generalize astO 2 2000 x g = okk
 generalize astS 2 2000 x g = g1 at *
 ((iterate 7 refine so_1 rfl ?_); refine so_nil (sn_then ?_); refine sw_seq (sw_region ?_); (iterate 2 refine so_1 rfl ?_))
 refine so_call rfl rfl rfl ((Deliver_G (gg := gg) (gq := gq) (gs := gs) (n := m) (V := g1.V) (L := g1.L) (C := g1.C)).ent (ent_keep 7 [2, 3, 0, 1, 4, 5, 6] rfl rfl)) ?_
 rintro _ _ ⟨A2, c2, D2, hD2, rfl, rfl⟩
 obtain ⟨hG2, hd2, hn2, hrn⟩ := hG1.dlvG
 have hD2l : D2.length ≤ 100000 := by have := congrArg List.length hD2; rw [List.length_map] at this; omega
 rw [← hD2] at hd2
 have hdd : Dls 2 g1.X g.V ((D1 ++ D2).map nE) (dlvG g1.V g1.L g1.C).2.1 := by rw [List.map_append]; exact hd1.app hd2
 generalize hgV : (dlvG g1.V g1.L g1.C).2.1 = V2 at *
 generalize hgL : (dlvG g1.V g1.L g1.C).2.2.1 = L2 at *
 generalize hgC : (dlvG g1.V g1.L g1.C).2.2.2 = C2 at *
 refine so_fact (evF_one (k := 1) rfl) fun hone2 => ?_
 refine so_append 4 rfl rfl rfl rfl rfl rfl rfl rfl rfl (m := D2.length) (news := evsC D2) (fun w H => (H.oat (k := 0) rfl).sl) (flC_one fun e he => evC_one (hone2 e he).1 (hone2 e he).2) (by omega) (fun _ => rfl) fun v12 => ?_
 refine so_fact (fun w H => (H.oat (k := 4) rfl).form) ?_
 rintro ⟨A12, c12, rfl, kc12, _, k12⟩
 have hDl : D1.length + D2.length = (D1 ++ D2).length := List.length_append.symm
 rw [← flC_app, hDl]
 rw [hDl] at kc12
 refine so_ent (G := all (evF D1) :: all (evF D2) :: rEn A12 c12 (D1 ++ D2).length (D1 ++ D2) :: gat gg gq gs C2 :: que gq m V2 L2 :: sto gs 2 2000 g1.X :: rZ (.slice A9 m c9) g.V :: [Is W]) (ent_keep 8 [5, 1, 4, 2, 3, 6, 7] rfl rfl) ?_
 refine so_ent ent_evF ?_
 have hDm : (D1 ++ D2).length ≤ 200000 := by omega
 have hew : ∀ e ∈ D1 ++ D2, EW e := fun e he => (hdd.ews _ (List.mem_map.2 ⟨e, he, rfl⟩)).of_nE
 generalize D1 ++ D2 = D at *
 clear hone2 hd1 hd2 hD1 hD2 hDl
 (refine so_1 rfl ?_; refine so_nil (sn_then ?_); (iterate 2 refine sw_seq ?_); refine sw_region ?_; refine so_1 rfl ?_; refine so_nil (sn_then ?_); refine sw_block ?_)
 refine sw_loop (S := Nat × List Int × Option Addr × Nat) (fun s => [(1, .slice (some ⟨bk, off, none⟩) l.length c0), (5, .bool true), (6, .pointer (some ⟨gg, 0, none⟩)), (7, .pointer (some ⟨gq, 0, none⟩)), (8, .pointer (some ⟨gs, 0, none⟩)), (9, .slice s.2.2.1 m s.2.2.2), (10, .int .i64 (i : Int)), (12, .slice A12 D.length c12), (14, .int .i64 (s.1 : Int))])
  (fun s => rZ (.slice s.2.2.1 m s.2.2.2) s.2.1 :: sto gs 2 2000 g1.X :: all (evF D) :: rEn A12 c12 D.length D :: gat gg gq gs C2 :: que gq m V2 L2 :: [Is W]) (fun s => s.1 ≤ D.length ∧ s.2.1.length = m ∧ Dls 2 g1.X s.2.1 ((D.drop s.1).map nE) V2) (fun s => D.length - s.1) (0, g.V, A9, c9) ⟨rfl, rfl, rfl, rfl, rfl, rfl, rfl, rfl, rfl, trivial⟩ (ent_keep 6 [5, 4, 0, 1, 2, 3] rfl rfl) ⟨Nat.zero_le _, hV0, hdd⟩ ?_
 clear hdd hV0
 rintro ⟨k, V, A9, c9⟩ ⟨hk, hVl, hds⟩
 dsimp only at hk hVl hds ⊢
 ((iterate 2 refine sw_seq ?_); refine sw_region ?_; (iterate 4 refine so_1 rfl ?_); refine so_nil (sn_then ?_))
 by_cases h2 : k < D.length
 rotate_left
 ·refine sw_know 58 (.bool false) rfl (congrArg Value.bool (decide_eq_false (by omega))) ?_
  have hVV : V = V2 := by
   rw [List.drop_eq_nil_of_le (by omega)] at hds
   cases hds; rfl
  subst hVV
  (refine sw_cond_f rfl ?_; refine sw_exit ?_; refine sn_then_exit ?_; refine sn_loop_exit ?_; refine sn_block_exit ?_; refine sn_then ?_; refine sw_seq (sw_region ?_); (iterate 2 refine so_1 rfl ?_))
  refine so_call rfl rfl rfl ((Vector_Q (gq := gq) (n := m) (V := V) (L := L2)).ent (ent_keep 6 [5, 0, 1, 2, 3, 4] rfl rfl)) ?_
  rintro v125 _ rfl
  skip
  refine so_callE rfl rfl rfl (SameInts_S (xs := V) (ys := V) (fun w H => by have h6 := (H.oat (k := 2) rfl).sl; unfold VL; rw [hVl] at h6; rw [hVl]; exact h6) (vlZ (k := 0) rfl)) ?_
  refine so_know 126 (.bool true) rfl (congrArg Value.bool (decide_eq_true rfl)) ?_
  ((iterate 3 refine so_1 rfl ?_))
  refine so_call rfl rfl rfl ((Ready_G (gg := gg) (gq := gq) (gs := gs) (n := m) (V := V) (L := L2) (C := C2)).ent (ent_keep 7 [6, 1, 0, 2, 3, 4, 5] rfl rfl)) ?_
  rw [hrn]
  rintro _ _ ⟨A13, c13, rfl, rfl⟩
  ((iterate 3 refine so_1 rfl ?_); refine so_nil (sn_then ?_); refine sw_cond_f rfl ?_; refine sw_skip ?_; refine sn_block ?_; refine sn_then ?_; refine sw_region ?_; refine so_1 rfl ?_; refine so_2 rfl (by (unfold I64; omega)) ?_; refine so_1 rfl ?_; refine so_nil ?_)
  refine sn_round (i + 1, ⟨V, L2, C2, g1.X⟩, A9, c9) ⟨rfl, rfl, rfl, rfl, rfl, rfl, rfl, trivial⟩ (ent_keep 8 [1, 2, 5, 4] rfl rfl) ⟨h1, hG2⟩ ?_
  show l.length - (i + 1) < l.length - i
  omega
 refine sw_know 58 (.bool true) rfl (congrArg Value.bool (decide_eq_true (by omega))) ?_
 obtain ⟨gD, oD, rfl⟩ := k12 (by omega)
 have hD32 : ∀ e ∈ D, e.id.length = 32 := fun e he => (hew e he).l32
 have hdm := List.getElem_mem h2
 obtain ⟨y1, y2, y3, y4, y5⟩ := dls_at hds h2
 have hye := hew _ hdm
 have hcD : ∀ {F : List SP} {q : Nat}, nth F q = some (rEn (some ⟨gD, oD, none⟩) c12 D.length D) → ∀ w, Sat W F w → ∀ j, j < 39 → w.cell? ⟨gD, oD + k * 39 + j, none⟩ = (evC D[k])[j]? := fun hk w H j hj => fl_cell (H.oat hk).sl (ev_len hD32) h2 hj
 have heD : ∀ {F : List SP} {q : Nat}, nth F q = some (all (evF D)) → ∀ w, Sat W F w → ER w D[k] := fun hk w H => evF_er hk hdm w H
 clear hds hew hG hc her hbr hA
 generalize D[k] = y at *
 have hx32 := hye.l32
 have hdot : ∀ {F : List SP} {q : Nat}, nth F q = some (rEn (some ⟨gD, oD, none⟩) c12 D.length D) → ∀ w, Sat W F w → ∀ j, j < 2 → w.cell? ⟨gD, oD + k * 39 + j, none⟩ = [Value.int .i64 y.r, .int .i64 y.n][j]? := fun hk w H j hj => by
  rcases j with _ | _ | j
  ·exact (hcD hk w H 0 (by omega)).trans rfl
  ·exact (hcD hk w H 1 (by omega)).trans rfl
  ·omega
 (refine sw_cond_t rfl ?_; refine sw_skip ?_; refine sn_then ?_; refine sw_seq ?_; refine sw_block ?_; (iterate 2 refine sw_seq ?_); refine sw_region ?_; (iterate 3 refine so_1 rfl ?_); refine so_2 rfl (by omega) ?_; refine so_1 rfl ?_)
 refine so_rd rfl (fun w H => ex_loadN (cs := [.int .i64 y.r, .int .i64 y.n]) rfl rfl rfl rfl (fun j hj => by rw [mulz_eq, idx_lt]; exact hdot (q := 3) rfl w H j hj)) rfl ?_
 refine so_callE rfl rfl rfl (SC.ofExt fun w H => Has_spec_vector_Has (vlZ (k := 0) rfl w H)) ?_
 rw [y1]
 ((iterate 3 refine so_1 rfl ?_); refine so_2 rfl (by omega) ?_; refine so_1 rfl ?_)
 refine so_rd rfl (fun w H => ex_load (v := y.dv) rfl rfl rfl (by rw [mulz_eq, idx_lt]; exact (hcD (q := 3) rfl w H 2 (by omega)).trans rfl)) rfl ?_
 (refine so_1 rfl ?_)
 refine so_callE rfl rfl rfl (SC.ofExt fun w H => Leq_spec (heD (q := 2) rfl w H).dv (vlZ (k := 0) rfl w H)) ?_
 rw [y2]
 ((iterate 2 refine so_1 rfl ?_); refine so_nil (sn_then ?_); refine sw_cond_f rfl ?_; refine sw_skip ?_; refine sn_then ?_; refine sw_seq (sw_region ?_); (iterate 3 refine so_1 rfl ?_); refine so_2 rfl (by omega) ?_; refine so_1 rfl ?_)
 refine so_rd rfl (fun w H => ex_loadN (cs := [.int .i64 y.r, .int .i64 y.n]) rfl rfl rfl rfl (fun j hj => by rw [mulz_eq, idx_lt]; exact hdot (q := 3) rfl w H j hj)) rfl ?_
 refine so_call rfl rfl rfl (SC.ofMade fun w H => With_spec_vector (xs := V) (vlZ (k := 0) rfl w H) (by omega)) ?_
 rw [y3]
 rintro v84 _ rfl
 have hadl : (advV V y.r y.n).length = m := by simp [advV, hVl]
 refine so_fact (fun w H => (H.oat (k := 0) rfl).form) ?_
 rintro ⟨A21, c21, hv84, _, _, _⟩
 rw [hadl] at hv84
 subst hv84
 generalize advV V y.r y.n = V3 at *
 refine so_ent (G := rZ (.slice A21 m c21) V3 :: sto gs 2 2000 g1.X :: all (evF D) :: rEn (some ⟨gD, oD, none⟩) c12 D.length D :: gat gg gq gs C2 :: que gq m V2 L2 :: [Is W]) (ent_keep 8 [0, 2, 3, 4, 5, 6, 7] rfl rfl) ?_
 refine so_fact (fun w H => sl_form (heD (q := 2) rfl w H).rv) ?_
 rintro ⟨A15, c15, hrv, _, _, _, k15, _⟩
 refine so_fact (sto_ln (k := 1) rfl) fun hln => ?_
 (refine so_1 rfl ?_; refine so_nil (sn_then ?_); refine sw_seq (sw_region ?_); refine so_1 rfl ?_; refine so_nil (sn_then ?_); refine sw_block ?_)
 refine sw_loop (S := Nat) (fun j => [(1, .slice (some ⟨bk, off, none⟩) l.length c0), (5, .bool true), (6, .pointer (some ⟨gg, 0, none⟩)), (7, .pointer (some ⟨gq, 0, none⟩)), (8, .pointer (some ⟨gs, 0, none⟩)), (9, .slice A21 m c21), (10, .int .i64 (i : Int)), (12, .slice (some ⟨gD, oD, none⟩) D.length c12), (14, .int .i64 (k : Int)), (15, .int .i64 (j : Int))])
  (fun _ => rZ (.slice A21 m c21) V3 :: sto gs 2 2000 g1.X :: all (evF D) :: rEn (some ⟨gD, oD, none⟩) c12 D.length D :: gat gg gq gs C2 :: que gq m V2 L2 :: [Is W]) (fun j => j ≤ y.refs.length) (fun j => y.refs.length - j) 0 ⟨rfl, rfl, rfl, rfl, rfl, rfl, rfl, rfl, rfl, rfl, trivial⟩ (Ent.refl _) (Nat.zero_le _) ?_
 intro j hj
 have hrvc : ∀ {F : List SP} {q : Nat}, nth F q = some (rEn (some ⟨gD, oD, none⟩) c12 D.length D) → ∀ w, Sat W F w → w.cell? ⟨gD, oD + k * 39 + 38, none⟩ = some y.rv := fun hk w H => (hcD hk w H 38 (by omega)).trans (by rw [← nth_eq]; exact evC_rv hx32)
 ((iterate 2 refine sw_seq ?_); refine sw_region ?_; (iterate 3 refine so_1 rfl ?_); refine so_2 rfl (by omega) ?_; refine so_1 rfl ?_)
 refine so_rd rfl (fun w H => ex_load (v := y.rv) rfl rfl rfl (by rw [mulz_eq, idx_lt]; exact hrvc (q := 3) rfl w H)) rfl ?_
 refine so_know 90 (.slice A15 y.refs.length c15) rfl hrv ?_
 ((iterate 2 refine so_1 rfl ?_); refine so_nil (sn_then ?_))
 by_cases h3 : j < y.refs.length
 rotate_left
 ·refine sw_know 92 (.bool false) rfl (congrArg Value.bool (decide_eq_false (by omega))) ?_
  (refine sw_cond_f rfl ?_; refine sw_exit ?_; refine sn_then_exit ?_; refine sn_loop_exit ?_; refine sn_block_exit ?_; refine sn_block ?_; refine sn_then ?_; refine sw_region ?_; refine so_1 rfl ?_; refine so_2 rfl (by (unfold I64; omega)) ?_; refine so_1 rfl ?_; refine so_nil ?_)
  refine sn_round (k + 1, V3, A21, c21) ⟨rfl, rfl, rfl, rfl, rfl, rfl, rfl, rfl, rfl, trivial⟩ (Ent.refl _) ⟨h2, hadl, y5⟩ ?_
  show D.length - (k + 1) < D.length - k
  omega
 refine sw_know 92 (.bool true) rfl (congrArg Value.bool (decide_eq_true (by omega))) ?_
 obtain ⟨gR, oR, rfl⟩ := k15 (by omega)
 have hzm := List.getElem_mem h3
 obtain ⟨bl, hf, hdg⟩ := y4 _ hzm
 have hzi := hye.rf _ hzm
 have hbl : bl.length ≤ 1000000 := by have := hln _ (findX_mem hf); dsimp only at this; omega
 have ca : ∀ {F : List SP} {q : Nat}, nth F q = some (all (evF D)) → ∀ w, Sat W F w → ∀ q, q < 32 → w.cell? ⟨gR, oR + j * 32 + q, none⟩ = (u8s y.refs[j])[q]? := fun {F q} hq => id_cells (F := F) (fun w H => by rw [← hrv]; exact (heD hq w H).rv) hye.r32 h3
 generalize y.refs[j] = z at *
 have hz32 := hzi.1
 (refine sw_cond_t rfl ?_; refine sw_skip ?_; refine sn_then ?_; refine sw_seq ?_; refine sw_block ?_; refine sw_seq (sw_region ?_); (iterate 3 refine so_1 rfl ?_); refine so_2 rfl (by omega) ?_; refine so_1 rfl ?_)
 refine so_rd rfl (fun w H => ex_load (v := y.rv) rfl rfl rfl (by rw [mulz_eq, idx_lt]; exact hrvc (q := 3) rfl w H)) rfl ?_
 refine so_know 101 (.slice (some ⟨gR, oR, none⟩) y.refs.length c15) rfl hrv ?_
 (refine so_1 rfl ?_; refine so_2 rfl (by omega) ?_)
 refine so_rd rfl (fun w H => ex_loadN (cs := u8s z) rfl rfl rfl (by rw [u8s_len, hz32]; rfl) (fun q hq => by rw [mulz_eq, idx_lt]; exact ca (q := 2) rfl w H q (by rw [u8s_len, hz32] at hq; exact hq))) rfl ?_
 refine so_call rfl rfl rfl ((Get_Q (gs := gs) (w := 2) (r := 2000) (X := g1.X) (id := z) hzi).ent (ent_keep 7 [1, 0, 2, 3, 4, 5, 6] rfl rfl)) ?_
 rw [hf]
 rintro _ _ ⟨v1, rfl, rfl⟩
 ((iterate 5 refine so_1 rfl ?_); refine so_nil (sn_then ?_); refine sw_seq ?_)
 refine sw_draw flo _ (by decide +kernel) (Ent.refl _) ?_
 ((iterate 4 refine sd_1 rfl (.inl rfl) ?_))
 refine sd_callE rfl rfl rfl rfl (own22_S (xs := bl) hbl (vlB (k := 0) rfl)) (Ent.refl _) ?_
 rw [hdg]
 ((iterate 2 refine sd_1 rfl (.inl rfl) ?_); refine sd_2 rfl rfl (by omega) ?_; refine sd_1 rfl (.inl rfl) ?_)
 refine sd_rd rfl (fun w H => ex_load (v := y.rv) rfl rfl rfl (by rw [mulz_eq, idx_lt]; exact hrvc (q := 4) rfl w H)) rfl rfl ?_
 refine sd_know 117 (.slice (some ⟨gR, oR, none⟩) y.refs.length c15) rfl hrv ?_
 (refine sd_1 rfl (.inl rfl) ?_; refine sd_2 rfl rfl (by omega) ?_)
 refine sd_rd rfl (fun w H => ex_loadN (cs := u8s z) rfl rfl rfl (by rw [u8s_len, hz32]; rfl) (fun q hq => by rw [mulz_eq, idx_lt]; exact ca (q := 3) rfl w H q (by rw [u8s_len, hz32] at hq; exact hq))) rfl rfl ?_
 refine sd_pu rfl (pu_neI (as00 := z) (bs := z) rfl rfl hz32 hz32) rfl rfl ?_
 refine sd_know 121 (.bool false) rfl (congrArg Value.bool (by rw [decide_eq_true rfl]; rfl)) ?_
 (refine sd_1 rfl (.inl rfl) ?_)
 refine sd_nil ?_
 (refine sn_then ?_; refine sw_cond_f rfl ?_; refine sw_skip ?_; refine sn_block ?_; refine sn_then ?_; refine sw_region ?_; refine so_1 rfl ?_; refine so_2 rfl (by (unfold I64; omega)) ?_; refine so_1 rfl ?_; refine so_nil ?_)
 refine sn_round (j + 1) ⟨rfl, rfl, rfl, rfl, rfl, rfl, rfl, rfl, rfl, rfl, trivial⟩ (ent_keep 8 [2, 1, 3, 4, 5, 6, 7] rfl rfl) h3 ?_
 show y.refs.length - (j + 1) < y.refs.length - j
 omega

end Go.Proofs.YtdmfcnjgdicncaaGreat
