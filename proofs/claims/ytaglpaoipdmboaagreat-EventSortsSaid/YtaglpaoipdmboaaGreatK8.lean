/- Events as bytes: the program's Encode. Conditions: numbers of 64 bits; not too many. -/
import Derived.Test.YtaglpaoipdmboaaGreatK7
import Derived.Test.YtaglpaoipdmboaaGreatK5
import Derived.Test.YtaglpaoipdmboaaGreatK4
import Derived.Test.YtaglpaoipdmboaaGreatK6
namespace Go.Proofs.YtaglpaoipdmboaaGreat
open Go Go.Eng Go.RowKit

theorem i64_of {x : Int} (h : (Lit.int .i64 x).wf = true) : I64 x := (i64wf x).1 h
/-- An event that is not too much. -/
structure EvL (e : Ev) : Prop where
  dn : e.deps.length ≤ 1000000
  rn : e.refs.length ≤ 1000000
  ps : e.repo.size ≤ 1000000
  ts : e.tag.size ≤ 1000000
section
variable {b : World} {F : List SP} {e : Ev}
theorem wputs_len {lim : Int} (l : List (Bool × List Int)) {s : WS} (h : (s.b.length : Int) ≤ lim) : ((wputs lim l s).b.length : Int) ≤ lim := by
  induction l generalizing s with
  | nil => exact h
  | cons p l ih => exact ih (wput_len h)
theorem wputs_snoc (lim : Int) (l : List (Bool × List Int)) (p : Bool × List Int) (s : WS) : wputs lim (l ++ [p]) s = wput lim p (wputs lim l s) := by rw [wputs_app]; rfl
set_option maxRecDepth 20000 in
set_option maxHeartbeats 2000000 in
theorem Encode_S (he : ∀ w, Sat b F w → ER w e) (hw : EW e) (hl : EvL e) : SC Tryz.prog n_event_Encode [evV e] b F (fun u F' => ∃ r, u = .tuple ⟨[r, .int .i64 (encE e).2]⟩ ∧ F' = rB r (encE e).1 :: F) := by
  have h32 := hw.l32
  have hr32 := hw.r32
  have hdot := hw.dot
  refine enterS F_event_Encode rfl rfl rfl ?_
  refine sw_fact (fun w H => sl_form (he w H).rv) ?_
  rintro ⟨A, c, hrv, h1, h2, h3, h4, _⟩
  (refine sw_seq ?_; refine sw_region ?_)
  refine so_box rfl rfl rfl rfl rfl fun g1 => ?_
  ((iterate 2 refine so_1 rfl ?_); refine so_nil ?_; refine sn_then ?_; (iterate 2 refine sw_seq ?_); refine sw_region ?_; refine so_1 rfl ?_)
  refine so_ld 0 rfl rfl rfl rfl rfl rfl (evC_rv h32) rfl ?_
  have her : ∀ w, Sat b (pt g1 t_api_Event (evC e) :: F) w → ER w e := up he (ent_keep 1 [] rfl rfl)
  rw [hrv]
  ((iterate 2 refine so_1 rfl ?_); refine so_nil ?_; refine sn_then ?_)
  refine sw_if rfl (fun h => ?_) (fun h => ?_)
  · have hr : encE e = ([], 4) := by unfold encE; rw [if_pos (by omega)]
    (refine sw_seq ?_; refine sw_region ?_; (iterate 2 refine so_1 rfl ?_); refine so_nil ?_; refine sn_then ?_; refine sw_ret ?_; refine sn_then_ret ?_)
    refine sn_ret rfl (.tmp rfl (.tmp rfl .nil)) ((ent_keep 1 [] rfl rfl).trans (ent_row_nil t_uint8 1 rfl)) ?_
    rw [hr]
    exact ⟨_, rfl, rfl⟩
  have hrn : e.refs.length ≤ 256 := by omega
  have hr : encE e = wdone (wputs 16384 (encL e) ⟨[], 0⟩) := by unfold encE; rw [if_neg (by omega)]
  (refine sw_skip ?_; refine sn_then ?_; refine sw_seq ?_; refine sw_region ?_)
  refine so_call rfl rfl rfl (NewWriter_S (by decide) (by decide)) ?_
  rintro _ _ ⟨g, gw, rfl, rfl⟩
  ((iterate 5 refine so_1 rfl ?_); refine so_nil ?_; refine sn_then ?_; refine sw_seq ?_; refine sw_region ?_; (iterate 2 refine so_1 rfl ?_); refine so_l 3 rfl rfl rfl ?_)
  refine so_call rfl rfl rfl (wDot_S (i64_of hdot.1) (i64_of hdot.2) (by decide) (by decide)) ?_
  rintro _ _ ⟨v1, rfl⟩
  have k1 := wput_len (lim := 16384) (p := pDot e.r e.n) (s := ⟨[], 0⟩) (by decide)
  (refine so_nil ?_; refine sn_then ?_; refine sw_seq ?_; refine sw_region ?_; (iterate 2 refine so_1 rfl ?_); refine so_l 3 rfl rfl rfl ?_)
  refine so_call rfl rfl rfl (wVec_S (fun w H => (her w H).dv) hw.dp hl.dn (by decide) k1) ?_
  rintro _ _ ⟨v2, rfl⟩
  have k2 := wput_len (p := pVec e.deps) k1
  (refine so_nil ?_; refine sn_then ?_; refine sw_seq ?_; refine sw_region ?_; (iterate 2 refine so_1 rfl ?_); refine so_l 3 rfl rfl rfl ?_)
  refine so_call rfl rfl rfl (wNum_S hw.kind (by decide) k2) ?_
  rintro _ _ ⟨v3, rfl⟩
  have k3 := wput_len (p := pNum e.kind) k2
  (refine so_nil ?_; refine sn_then ?_; refine sw_seq ?_; refine sw_region ?_; (iterate 2 refine so_1 rfl ?_); refine so_l 3 rfl rfl rfl ?_)
  refine so_call rfl rfl rfl (wText_S hl.ps (by decide) k3) ?_
  rintro _ _ ⟨v4, rfl⟩
  have k4 := wput_len (p := pBytes (strI e.repo)) k3
  (refine so_nil ?_; refine sn_then ?_; refine sw_seq ?_; refine sw_region ?_; (iterate 2 refine so_1 rfl ?_); refine so_l 3 rfl rfl rfl ?_)
  refine so_call rfl rfl rfl (wText_S hl.ts (by decide) k4) ?_
  rintro _ _ ⟨v5, rfl⟩
  have k5 := wput_len (p := pBytes (strI e.tag)) k4
  (refine so_nil ?_; refine sn_then ?_; refine sw_seq ?_; refine sw_region ?_; (iterate 2 refine so_1 rfl ?_))
  refine so_ldA 3 rfl rfl rfl rfl rfl rfl (evC_id h32) rfl ?_
  refine so_call rfl rfl rfl (wID_S h32 (by decide) k5) ?_
  rintro _ _ ⟨v6, rfl⟩
  have k6 := wput_len (p := pID e.id) k5
  (refine so_nil ?_; refine sn_then ?_; refine sw_seq ?_; refine sw_region ?_; (iterate 2 refine so_1 rfl ?_))
  refine so_ld 3 rfl rfl rfl rfl rfl rfl (evC_rv h32) rfl ?_
  rw [hrv]
  (refine so_1 rfl ?_)
  refine so_call rfl rfl rfl (wNum_S (n := e.refs.length) ⟨by omega, by omega⟩ (by decide) k6) ?_
  rintro _ _ ⟨v7, rfl⟩
  have k7 := wput_len (p := pNum e.refs.length) k6
  generalize hs7 : wput 16384 (pNum e.refs.length) (wput 16384 (pID e.id) (wput 16384 (pBytes (strI e.tag)) (wput 16384 (pBytes (strI e.repo)) (wput 16384 (pNum e.kind) (wput 16384 (pVec e.deps) (wput 16384 (pDot e.r e.n) ⟨[], 0⟩)))))) = s7 at k7 ⊢
  have hall : wputs 16384 (encL e) ⟨[], 0⟩ = wputs 16384 (e.refs.map pID) s7 := by rw [encL, wputs_app, ← hs7]; rfl
  (refine so_nil ?_; refine sn_then ?_; (iterate 2 refine sw_seq ?_); refine sw_region ?_; refine so_1 rfl ?_)
  refine so_ld 3 rfl rfl rfl rfl rfl rfl (evC_rv h32) rfl ?_
  rw [hrv]
  ((iterate 2 refine so_1 rfl ?_); refine so_nil ?_; refine sn_then ?_; refine sw_block ?_)
  refine sw_loop (S := Nat × Value) (fun t => [(4, .pointer (some ⟨g, 0, none⟩)), (46, .slice A e.refs.length c), (47, .int .i64 (e.refs.length : Int)), (48, .int .i64 (t.1 : Int))]) (fun t => wtP g gw t.2 16384 (wputs 16384 ((e.refs.take t.1).map pID) s7) ++ (pt g1 t_api_Event (evC e) :: F)) (fun t => t.1 ≤ e.refs.length) (fun t => e.refs.length - t.1) (0, v7) ⟨rfl, rfl, rfl, rfl, trivial⟩ (Ent.refl _) (Nat.zero_le _) ?_
  rintro ⟨i, v8⟩ hi
  dsimp only at hi ⊢
  have k8 := wputs_len ((e.refs.take i).map pID) k7
  (refine sw_seq ?_; refine sw_region ?_; refine so_1 rfl ?_; refine so_nil ?_; refine sn_then ?_; refine sw_seq ?_)
  refine sw_if rfl (fun h5 => ?_) (fun h5 => ?_)
  · have h5' : i < e.refs.length := by omega
    obtain ⟨gA, oA, rfl⟩ := h4 (by omega)
    have hx := hr32 _ (List.getElem_mem h5')
    have ca : ∀ w, Sat b F w → ∀ j, j < 32 → w.cell? ⟨gA, oA + i * 32 + j, none⟩ = (u8s e.refs[i])[j]? := fun w H j hj => fl_cell (f := u8s) (by rw [← idsC_fl, ← hrv]; exact (he w H).rv) (fun a h => by rw [u8s_len, hr32 a h]) h5' hj
    have hsn : (e.refs.take (i + 1)).map pID = (e.refs.take i).map pID ++ [pID e.refs[i]] := by rw [List.take_succ_eq_append_getElem h5', List.map_append]; rfl
    generalize e.refs[i] = x at hx ca hsn
    (refine sw_skip ?_; refine sn_then ?_; refine sw_seq ?_; refine sw_block ?_; refine sw_seq ?_; refine sw_region ?_; refine so_2 rfl (by omega) ?_)
    refine so_rd rfl (fun w H => ex_loadN (cs := u8s x) rfl rfl rfl (by rw [u8s_len, hx]; rfl) (fun j hj => by rw [mulz_eq, Int.toNat_natCast]; exact ca w (H.ent (ent_keep 4 [] rfl rfl)) j (by rw [u8s_len, hx] at hj; exact hj))) rfl ?_
    refine so_new rfl rfl rfl rfl rfl fun g7 => ?_
    refine so_stW 0 rfl rfl rfl rfl rfl rfl rfl (by rw [u8s_len, hx]; rfl) (u8s_one _) (by simp [hx]) ?_
    (refine so_nil ?_; refine sn_then ?_; refine sw_region ?_; refine so_1 rfl ?_)
    refine so_ldA 0 rfl rfl rfl rfl rfl rfl (segID hx) rfl ?_
    skip
    refine so_call rfl rfl rfl ((wID_S (F := pt g7 t_api_ID (u8s x) :: pt g1 t_api_Event (evC e) :: F) hx (by decide) k8).ent (ent_keep 5 [1, 2, 3, 0, 4] rfl rfl)) ?_
    rintro _ _ ⟨v9, rfl⟩
    (refine so_nil ?_; refine sn_block ?_; refine sn_then ?_; refine sw_region ?_; refine so_2 rfl (by (unfold I64; omega)) ?_; refine so_1 rfl ?_; refine so_nil ?_)
    rw [show (i : Int) + 1 = ((i + 1 : Nat) : Int) by omega]
    refine sn_round (i + 1, v9) ⟨rfl, rfl, rfl, rfl, trivial⟩ ?_ h5' (by dsimp only; omega)
    dsimp only
    rw [hsn, wputs_snoc]
    exact ent_keep 5 [0, 1, 2, 4] rfl rfl
  obtain rfl : i = e.refs.length := by omega
  rw [List.take_length, ← hall] at k8 ⊢
  (refine sw_exit ?_; refine sn_then_exit ?_; refine sn_loop_exit ?_; refine sn_block_exit ?_; refine sn_then ?_; refine sw_seq ?_; refine sw_region ?_; refine so_1 rfl ?_)
  refine so_call rfl rfl rfl (wDone_S (by omega)) ?_
  rintro _ _ ⟨r, rfl, rfl⟩
  ((iterate 4 refine so_1 rfl ?_); refine so_nil ?_; refine sn_then ?_; refine sw_ret ?_)
  refine sn_ret rfl (.tmp rfl (.tmp rfl .nil)) (ent_keep 2 [0] rfl rfl) ?_
  rw [hr]
  exact ⟨r, rfl, rfl⟩
end
end Go.Proofs.YtaglpaoipdmboaaGreat
/- Events as bytes: the program's Decode. Conditions: not too many bytes. -/
namespace Go.Proofs.YtaglpaoipdmboaaGreat
open Go Go.Eng Go.RowKit

instance : EqT Tryz.prog t_api_Fault := ⟨by kernel_rfl⟩
set_option maxRecDepth 100000 in
theorem eq_fault (a b c d : Int) (w : World) : (Op.equalIn 10000 t_api_Fault (ftV (a, b)) (ftV (c, d))).run Tryz.prog w = .ok (decide (a = c ∧ b = d)) w := by
  have hS : Tryz.prog.underlying t_api_Fault = some (.struct (Tryz.prog.fieldsOf t_api_Fault)) := by kernel_rfl
  have hp : Tryz.prog.stoodInHeld t_api_Fault = false := by kernel_rfl
  have hf : ∃ f g : Field, (Tryz.prog.fieldsOf t_api_Fault).toList = [f, g] ∧ f.name ≠ "_" ∧ g.name ≠ "_" ∧ f.type = t_api_Errno ∧ g.type = t_int ∧ f.offset = 0 ∧ g.offset = 1 :=
    ⟨_, _, rfl, by decide, by decide, rfl, rfl, rfl, rfl⟩
  obtain ⟨f, g, h1, h2, h3, h4, h5, h6, h7⟩ := hf
  have ui : Tryz.prog.underlying t_int = some (.int .i64) := by kernel_rfl
  have ue : Tryz.prog.underlying t_api_Errno = some (.int .i64) := by kernel_rfl
  rw [show (10000 : Nat) = 9998 + 1 + 1 from rfl, run_equalIn_struct w 9999 t_api_Fault _ _ hS hp, h1]
  have p0 : ∀ (x y : Int), (part t_api_Errno #[.int .i64 x, .int .i64 y] 0).run Tryz.prog w = .ok (.int .i64 x) w := fun x y => by simp [part, isAgg, run_underlying ue]
  have p1 : ∀ (x y : Int), (part t_int #[.int .i64 x, .int .i64 y] 1).run Tryz.prog w = .ok (.int .i64 y) w := fun x y => by simp [part, isAgg, run_underlying ui]
  have q : ∀ x y : Int, (Op.equalIn 9999 t_int (.int .i64 x) (.int .i64 y)).run Tryz.prog w = .ok (x == y) w := fun x y => run_equalIn_int w 9998 t_int .i64 .i64 x y ui
  have q0 : ∀ x y : Int, (Op.equalIn 9999 t_api_Errno (.int .i64 x) (.int .i64 y)).run Tryz.prog w = .ok (x == y) w := fun x y => run_equalIn_int w 9998 t_api_Errno .i64 .i64 x y ue
  simp only [Op.eqFields, h2, h3, h4, h5, h6, h7, ne_eq, not_false_eq_true, if_true, Sem.run_bind, p0, p1, q, q0, Result.andThen_ok]
  by_cases e1 : a = c <;> by_cases e2 : b = d <;> simp [e1, e2, p1, q]
theorem idsC_appE (l : List (List Int)) (x : List Int) : idsC l ++ u8s x = idsC (l ++ [x]) := by
  induction l with
  | nil => simp [idsC]
  | cons a l ih => simp only [idsC, List.cons_append, List.append_assoc, ih]
theorem ent_rDi {F G : List SP} {v : Value} {n : Nat} {cs : List Value} {l : List (List Int)} (k : Nat) (hk : nth F k = some (row t_api_ID 32 v n cs)) (hl : n = l.length) (hc : cs = idsC l) (hG : setF F k (rD v l) = some G) : Ent F G := by
  subst hl; subst hc; exact ent_set k hk (fun _ h => h) hG
theorem go_at {α : Type} {f : List Int → RS → α × RS} (hf : Go1 f) {B : List Int} {s : RS} (h : s.e = 0 → s.at' ≤ B.length) : (f B s).2.e = 0 → (f B s).2.at' ≤ B.length := fun he =>
  (hf.go B [] s he (h (hf.stuck B s he))).2.1
theorem rIDs_snoc (B : List Int) (n : Nat) (s : RS) : rIDs B (n + 1) s = ((rIDs B n s).1 ++ [(rID B (rIDs B n s).2).1], (rID B (rIDs B n s).2).2) := by
  induction n generalizing s with
  | zero => rfl
  | succ n ih =>
    rw [rIDs, ih]
    simp only [rIDs, List.cons_append]
theorem rIDs_len (B : List Int) (n : Nat) (s : RS) : (rIDs B n s).1.length = n := by
  induction n generalizing s with
  | zero => rfl
  | succ n ih => simp only [rIDs, List.length_cons, ih]
theorem rID_len {B : List Int} {s : RS} (hat : s.e = 0 → s.at' ≤ B.length) : (rID B s).1.length = 32 := by
  unfold rID
  split
  · simp
  · split
    · simp
    · rename_i h1 h2
      have := hat (by simpa using h1)
      simp; omega
theorem rIDs_32 {B : List Int} {s : RS} (hat : s.e = 0 → s.at' ≤ B.length) (n : Nat) : len32 (rIDs B n s).1 := by
  induction n with
  | zero => exact fun x hx => by cases hx
  | succ n ih =>
    rw [rIDs_snoc]
    intro x hx
    rcases List.mem_append.1 hx with hx | hx
    · exact ih x hx
    · rw [List.mem_singleton.1 hx]; exact rID_len (go_at (go_ids n) hat)
theorem dec_fa {B : List Int} (h : (dAll B r0).2.e = 0) : (dAll B r0).2.fa = 0 := (go_dAll.go B [] r0 h (Nat.zero_le _)).2.2.2
section
variable {b : World} {F : List SP} {B : List Int}
set_option maxRecDepth 20000 in
set_option maxHeartbeats 4000000 in
theorem Decode_S {vb : Value} (hv : ∀ w, Sat b F w → VL (Value.int .u8) w vb B) (hB : B.length ≤ 1000000) (hb : byteOk B) :
    SC Tryz.prog n_event_Decode [vb] b F (fun u F' => ∃ dv rv, u = .tuple ⟨[evV ((decE B).1.own dv rv), ftV (decE B).2]⟩ ∧ F' = rZ dv (decE B).1.deps :: rD rv (decE B).1.refs :: F) := by
  have hzl : (evC evZ).length = 39 := rfl
  have hz1 : ∀ u ∈ evC evZ, u.oneCell' = true := evC_one rfl rfl
  refine enterS F_event_Decode rfl rfl rfl ?_
  refine sw_fact (fun w H => (hv w H).form) ?_
  rintro ⟨A, c0, rfl, hc1, hc2, hc3, _⟩
  (refine sw_seq ?_; refine sw_region ?_)
  refine so_new rfl rfl rfl rfl rfl fun g2 => ?_
  refine so_new rfl rfl rfl rfl rfl fun g3 => ?_
  (refine so_nil ?_; refine sn_then ?_; (iterate 2 refine sw_seq ?_); refine sw_region ?_; (iterate 3 refine so_1 rfl ?_); refine so_nil ?_; refine sn_then ?_)
  refine sw_if rfl (fun h => ?_) (fun h => ?_)
  · have hdec : decE B = (evZ, 4, 16384) := by unfold decE; rw [if_pos (by omega)]
    (refine sw_seq ?_; refine sw_region ?_; (iterate 2 refine so_1 rfl ?_); refine so_s1 1 rfl rfl rfl rfl ?_; refine so_s1 0 rfl rfl rfl rfl ?_; refine so_nil ?_; refine sn_then ?_; refine sw_ret ?_; refine sn_then_ret ?_)
    refine sn_ret rfl (.whole 1 rfl rfl rfl rfl rfl (.agg 0 rfl rfl rfl rfl rfl .nil)) ((ent_keep 2 [] rfl rfl).trans ((ent_row_nil t_api_ID 32 rfl).trans (ent_row_nil t_int 1 rfl))) ?_
    rw [hdec]
    exact ⟨_, _, rfl, rfl⟩
  (refine sw_skip ?_; refine sn_then ?_; refine sw_seq ?_; refine sw_region ?_; refine so_1 rfl ?_)
  refine so_call rfl rfl rfl (NewReader_S (up hv (ent_keep 2 [] rfl rfl)) hB) ?_
  rintro _ _ ⟨g, gw, rv0, rfl, rfl⟩
  (refine so_1 rfl ?_; refine so_nil ?_; refine sn_then ?_; refine sw_seq ?_; refine sw_region ?_; refine so_1 rfl ?_)
  have a0 : (r0 : RS).e = 0 → (r0 : RS).at' ≤ B.length := fun _ => Nat.zero_le _
  refine so_call rfl rfl rfl (rdDot_S hB hb) ?_
  rintro _ _ ⟨rfl, rfl⟩
  have a1 := go_at go_dot a0
  (refine so_1 rfl ?_)
  refine so_call rfl rfl rfl (rdVec_S (by decide) hB hb) ?_
  rintro dv _ rfl
  refine so_fact (fun w H => (H.oat (k := 0) rfl).form) ?_
  rintro ⟨Ad, cd, rfl, _, _, _⟩
  have a2 := go_at (go_vec 16) a1
  (refine so_1 rfl ?_)
  refine so_call rfl rfl rfl ((rdNum_S (F := rZ (.slice Ad _ cd) (rVec B 16 (rDot B r0).2).1 :: pt g3 t_api_Fault [.int .i64 0, .int .i64 0] :: pt g2 t_api_Event (evC evZ) :: F) hB hb).ent (ent_keep 4 [1, 2, 3, 0] rfl rfl)) ?_
  rintro _ _ ⟨rfl, rfl⟩
  have a3 := go_at go_num a2
  (refine so_1 rfl ?_)
  refine so_call rfl rfl rfl (rdText_S hB hb a3) ?_
  rintro _ _ ⟨rfl, rfl⟩
  have a4 := go_at (go_bytes 128) a3
  (refine so_1 rfl ?_)
  refine so_call rfl rfl rfl (rdText_S hB hb a4) ?_
  rintro _ _ ⟨rfl, rfl⟩
  have a5 := go_at (go_bytes 64) a4
  (refine so_1 rfl ?_)
  refine so_call rfl rfl rfl (rdID_S hB a5) ?_
  rintro _ _ ⟨rfl, rfl⟩
  have a6 := go_at go_id a5
  have hid := rID_len a5
  have a7 := go_at go_num a6
  have hn := rNum_nn (s := (rID B (rBytes B 64 (rBytes B 128 (rNum B (rVec B 16 (rDot B r0).2).2).2).2).2).2) hb
  have hlen : 16384 < B.length ∨ B.length ≤ 16384 := by omega
  have hdec : decE B = if 256 < (rNum B (rID B (rBytes B 64 (rBytes B 128 (rNum B (rVec B 16 (rDot B r0).2).2).2).2).2).2).1 then (evZ, 4, B.length - rRest B (rID B (rBytes B 64 (rBytes B 128 (rNum B (rVec B 16 (rDot B r0).2).2).2).2).2).2)
      else if (rEnd B (rIDs B (rNum B (rID B (rBytes B 64 (rBytes B 128 (rNum B (rVec B 16 (rDot B r0).2).2).2).2).2).2).1.toNat (rNum B (rID B (rBytes B 64 (rBytes B 128 (rNum B (rVec B 16 (rDot B r0).2).2).2).2).2).2).2).2).1 ≠ 0 then (evZ, rEnd B (rIDs B (rNum B (rID B (rBytes B 64 (rBytes B 128 (rNum B (rVec B 16 (rDot B r0).2).2).2).2).2).2).1.toNat (rNum B (rID B (rBytes B 64 (rBytes B 128 (rNum B (rVec B 16 (rDot B r0).2).2).2).2).2).2).2).2)
      else (⟨(rDot B r0).1.1, (rDot B r0).1.2, nS, (rVec B 16 (rDot B r0).2).1, (rNum B (rVec B 16 (rDot B r0).2).2).1, strOfNums (rBytes B 128 (rNum B (rVec B 16 (rDot B r0).2).2).2).1, strOfNums (rBytes B 64 (rBytes B 128 (rNum B (rVec B 16 (rDot B r0).2).2).2).2).1, (rID B (rBytes B 64 (rBytes B 128 (rNum B (rVec B 16 (rDot B r0).2).2).2).2).2).1, nS, (rIDs B (rNum B (rID B (rBytes B 64 (rBytes B 128 (rNum B (rVec B 16 (rDot B r0).2).2).2).2).2).2).1.toNat (rNum B (rID B (rBytes B 64 (rBytes B 128 (rNum B (rVec B 16 (rDot B r0).2).2).2).2).2).2).2).1⟩, 0, 0) := by
    unfold decE; rw [if_neg (by omega)]; rfl
  have hfa := dec_fa (B := B)
  have e0 : (dAll B r0).2 = (rIDs B (rNum B (rID B (rBytes B 64 (rBytes B 128 (rNum B (rVec B 16 (rDot B r0).2).2).2).2).2).2).1.toNat (rNum B (rID B (rBytes B 64 (rBytes B 128 (rNum B (rVec B 16 (rDot B r0).2).2).2).2).2).2).2).2 := rfl
  rw [e0] at hfa
  generalize hq7 : (rNum B (rID B (rBytes B 64 (rBytes B 128 (rNum B (rVec B 16 (rDot B r0).2).2).2).2).2).2) = q7 at a7 hn hdec hfa ⊢
  generalize hx0 : (⟨(rDot B r0).1.1, (rDot B r0).1.2, .slice Ad (rVec B 16 (rDot B r0).2).1.length cd, (rVec B 16 (rDot B r0).2).1, (rNum B (rVec B 16 (rDot B r0).2).2).1, strOfNums (rBytes B 128 (rNum B (rVec B 16 (rDot B r0).2).2).2).1, strOfNums (rBytes B 64 (rBytes B 128 (rNum B (rVec B 16 (rDot B r0).2).2).2).2).1, (rID B (rBytes B 64 (rBytes B 128 (rNum B (rVec B 16 (rDot B r0).2).2).2).2).2).1, nS, []⟩ : Ev) = x0
  have x32 : x0.id.length = 32 := by rw [← hx0]; exact hid
  have xdv : x0.dv.oneCell' = true := by rw [← hx0]; rfl
  have xrv : x0.rv = nS := by rw [← hx0]
  have xd : x0.deps = (rVec B 16 (rDot B r0).2).1 := by rw [← hx0]
  have xl := evC_len x32
  have x1 := evC_one (e := x0) xdv (by rw [xrv]; rfl)
  refine so_B rfl rfl rfl ⟨rfl, rfl, rfl, rfl, rfl, (by show (u8s _).length = _; rw [u8s_len, hid]; rfl), trivial⟩ ?_
  refine so_know 28 (evV x0) rfl (by rw [← hx0]; rfl) ?_
  refine so_new rfl rfl rfl rfl rfl fun g5 => ?_
  refine so_stW 0 rfl rfl rfl rfl rfl rfl rfl xl x1 (by rw [xl]; rfl) ?_
  (refine so_nil ?_; refine sn_then ?_; refine sw_seq ?_; refine sw_region ?_; (iterate 3 refine so_1 rfl ?_))
  refine so_call rfl rfl rfl ((rdRest_S (F := pt g5 t_api_Event (evC x0) :: rZ (.slice Ad (rVec B 16 (rDot B r0).2).1.length cd) (rVec B 16 (rDot B r0).2).1 :: pt g3 t_api_Fault [.int .i64 0, .int .i64 0] :: pt g2 t_api_Event (evC evZ) :: F) hB a6).ent (ent_keep 4 [1, 2, 3, 0] rfl rfl)) ?_
  rintro _ _ ⟨rfl, rfl⟩
  generalize (rID B (rBytes B 64 (rBytes B 128 (rNum B (rVec B 16 (rDot B r0).2).2).2).2).2).2 = s6 at a6 hq7 hdec ⊢
  have hrest : 0 ≤ rRest B s6 ∧ rRest B s6 ≤ B.length := by
    unfold rRest
    split
    · omega
    · rename_i h9; have := a6 (by simpa using h9); omega
  (refine so_2 rfl (by (unfold I64; omega)) ?_; refine so_1 rfl ?_; refine so_nil ?_; refine sn_then ?_; refine sw_seq ?_; refine sw_region ?_; refine so_1 rfl ?_)
  refine so_call rfl rfl rfl (rdNum_S hB hb) ?_
  rintro _ _ ⟨rfl, rfl⟩
  rw [hq7]
  clear hq7
  obtain ⟨n0, s7⟩ := q7
  dsimp only at a7 hn hdec hfa ⊢
  (refine so_1 rfl ?_; refine so_nil ?_; refine sn_then ?_; (iterate 2 refine sw_seq ?_); refine sw_region ?_; (iterate 2 refine so_1 rfl ?_); refine so_nil ?_; refine sn_then ?_)
  refine sw_if rfl (fun h5 => ?_) (fun h5 => ?_)
  · rw [if_pos h5] at hdec
    (refine sw_seq ?_; refine sw_region ?_; (iterate 3 refine so_1 rfl ?_); refine so_s1 6 rfl rfl rfl rfl ?_; refine so_s1 5 rfl rfl rfl rfl ?_; refine so_nil ?_; refine sn_then ?_; refine sw_ret ?_; refine sn_then_ret ?_)
    refine sn_ret rfl (.whole 6 rfl rfl rfl rfl rfl (.agg 5 rfl rfl rfl rfl rfl .nil)) ((ent_keep 7 [] rfl rfl).trans ((ent_row_nil t_api_ID 32 rfl).trans (ent_row_nil t_int 1 rfl))) ?_
    rw [hdec]
    exact ⟨_, _, rfl, rfl⟩
  rw [if_neg h5] at hdec
  obtain ⟨n, rfl⟩ := Int.eq_ofNat_of_zero_le hn.1
  have e1 : ({ x0 with rv := nS } : Ev) = x0 := by rw [← xrv]
  (refine sw_skip ?_; refine sn_then ?_; (iterate 2 refine sw_seq ?_); refine sw_region ?_; (iterate 2 refine so_1 rfl ?_); refine so_nil ?_; refine sn_then ?_; refine sw_block ?_)
  refine sw_loop (S := Nat × Value) (fun t => [(2, .pointer (some ⟨g2, 0, none⟩)), (3, .pointer (some ⟨g3, 0, none⟩)), (4, .pointer (some ⟨g, 0, none⟩)), (5, .pointer (some ⟨g5, 0, none⟩)), (41, .int .i64 (n : Int)), (42, .int .i64 (t.1 : Int))])
    (fun t => pt g5 t_api_Event (evC { x0 with rv := t.2 }) :: rD t.2 (rIDs B t.1 s7).1 :: (wrP g gw rv0 B (rIDs B t.1 s7).2 ++ (rZ (.slice Ad (rVec B 16 (rDot B r0).2).1.length cd) (rVec B 16 (rDot B r0).2).1 :: pt g3 t_api_Fault [.int .i64 0, .int .i64 0] :: pt g2 t_api_Event (evC evZ) :: F)))
    (fun t => t.1 ≤ n) (fun t => n - t.1) (0, nS) ⟨rfl, rfl, rfl, rfl, rfl, rfl, trivial⟩ (by dsimp only; rw [e1]; exact (ent_row_nil t_api_ID 32 rfl).trans (ent_keep 5 [4, 0, 1, 2, 3] rfl rfl)) (Nat.zero_le _) ?_
  rintro ⟨i, r⟩ hi
  dsimp only at hi ⊢
  refine sw_fact (fun w H => (H.oat (k := 1) rfl).form) ?_
  rintro ⟨Ar, cr, rfl, _, _, _⟩
  have hli := rIDs_len B i s7
  have hl32 := rIDs_32 a7 i
  have ai := go_at (go_ids i) a7
  have y32 : ({ x0 with rv := .slice Ar (rIDs B i s7).1.length cr } : Ev).id.length = 32 := x32
  (refine sw_seq ?_; refine sw_region ?_; refine so_1 rfl ?_; refine so_nil ?_; refine sn_then ?_; refine sw_seq ?_)
  refine sw_if rfl (fun h6 => ?_) (fun h6 => ?_)
  · have h6' : i < n := by omega
    have hx := rID_len ai
    have hsn := rIDs_snoc B i s7
    (refine sw_skip ?_; refine sn_then ?_; refine sw_seq ?_; refine sw_block ?_)
    refine sw_draw2 flo 7 (pt g5 t_api_Event (evC { x0 with rv := .slice Ar (rIDs B i s7).1.length cr }) :: F) [] rfl (by decide +kernel) (ent_keep 8 [0] rfl rfl) ?_
    (refine sd_1 rfl (.inl rfl) ?_)
    refine sd_ld 0 rfl rfl rfl rfl rfl rfl (evC_rv y32) rfl rfl ?_
    (refine sd_1 rfl (.inl rfl) ?_)
    refine sd_call rfl rfl rfl rfl ((rdID_S (F := pt g5 t_api_Event (evC { x0 with rv := .slice Ar (rIDs B i s7).1.length cr }) :: rD (.slice Ar (rIDs B i s7).1.length cr) (rIDs B i s7).1 :: rZ (.slice Ad (rVec B 16 (rDot B r0).2).1.length cd) (rVec B 16 (rDot B r0).2).1 :: pt g3 t_api_Fault [.int .i64 0, .int .i64 0] :: pt g2 t_api_Event (evC evZ) :: F) hB ai).ent (ent_keep 8 [2, 3, 4, 0, 1, 5, 6, 7] rfl rfl)) ?_
    rintro _ _ ⟨rfl, rfl⟩
    refine ⟨ent_keep 8 [3] rfl rfl, ?_⟩
    generalize rID B (rIDs B i s7).2 = z at hx hsn ⊢
    obtain ⟨x, sx⟩ := z
    dsimp only at hx hsn ⊢
    refine sd_lit1 rfl rfl rfl rfl rfl rfl rfl rfl (by rw [u8s_len, hx]; rfl) (by decide) (ent_keep 8 [3] rfl rfl) fun gl => ?_
    refine sd_append 5 rfl rfl rfl rfl rfl rfl rfl rfl rfl rfl (m := 1) (news := u8s x) (fun w H => (H.blk (k := 0) rfl).sl (by rw [u8s_len, hx]) (by decide)) (u8s_one _) (by omega) (fun _ => rfl) (fun _ => ent_keep 9 [4] rfl rfl) fun r2 => ?_
    rw [idsC_appE]
    refine sd_fact (fun w H => (H.oat (k := 5) rfl).form) ?_
    rintro ⟨A7, c7, rfl, _, _, _⟩
    (refine sd_1 rfl (.inl rfl) ?_)
    refine sd_nil (sn_draw2 rfl (ent_nil _) ?_)
    refine sd_st 4 rfl rfl rfl rfl rfl rfl rfl rfl rfl (evC_strv y32) rfl (ent_nil _) ?_
    refine sd_nil ?_
    (refine sn_block ?_; refine sn_then ?_; refine sw_region ?_; refine so_2 rfl (by (unfold I64; omega)) ?_; refine so_1 rfl ?_; refine so_nil ?_)
    rw [show (i : Int) + 1 = ((i + 1 : Nat) : Int) by omega]
    refine sn_round (i + 1, .slice A7 ((rIDs B i s7).1.length + 1) c7) ⟨rfl, rfl, rfl, rfl, rfl, rfl, trivial⟩ ?_ h6' (by dsimp only; omega)
    dsimp only
    rw [hsn]
    exact (ent_rDi (l := (rIDs B i s7).1 ++ [x]) 5 rfl (by simp) rfl rfl).trans (ent_keep 9 [4, 5, 1, 2, 3, 6, 7, 8] rfl rfl)
  obtain rfl : i = n := by omega
  rw [Int.toNat_natCast] at hdec hfa
  (refine sw_exit ?_; refine sn_then_exit ?_; refine sn_loop_exit ?_; refine sn_block_exit ?_; refine sn_then ?_; (iterate 2 refine sw_seq ?_); refine sw_region ?_; refine so_1 rfl ?_)
  refine so_call rfl rfl rfl ((rdEnd_S (F := pt g5 t_api_Event (evC { x0 with rv := .slice Ar (rIDs B i s7).1.length cr }) :: rD (.slice Ar (rIDs B i s7).1.length cr) (rIDs B i s7).1 :: rZ (.slice Ad (rVec B 16 (rDot B r0).2).1.length cd) (rVec B 16 (rDot B r0).2).1 :: pt g3 t_api_Fault [.int .i64 0, .int .i64 0] :: pt g2 t_api_Event (evC evZ) :: F) hB).ent (ent_keep 8 [2, 3, 4, 0, 1, 5, 6, 7] rfl rfl)) ?_
  rintro _ _ ⟨rfl, rfl⟩
  skip
  refine so_new rfl rfl rfl rfl rfl fun g8 => ?_
  (refine so_s1 0 rfl rfl rfl rfl ?_; refine so_nil ?_; refine sn_then ?_; refine sw_seq ?_; refine sw_region ?_; refine so_l 0 rfl rfl rfl ?_; refine so_1 rfl ?_)
  refine so_pu rfl (pu_neA rfl rfl (eq_fault (rEnd B (rIDs B i s7).2).1 (rEnd B (rIDs B i s7).2).2 0 0)) rfl ?_
  have h0 : (rEnd B (rIDs B i s7).2).1 = 0 → (rEnd B (rIDs B i s7).2).2 = 0 := by
    unfold rEnd
    split
    · intro h; cases h
    · exact hfa
  generalize rEnd B (rIDs B i s7).2 = f at hdec h0 ⊢
  obtain ⟨f1, f2⟩ := f
  dsimp only at hdec h0 ⊢
  by_cases h7 : f1 = 0
  · have h8 := h0 h7
    subst h7; subst h8
    rw [if_neg (by simp)] at hdec
    refine so_know 56 (.bool false) rfl (by simp) ?_
    have hone := evC_one (e := { x0 with rv := .slice Ar (rIDs B i s7).1.length cr }) xdv rfl
    have yl := evC_len y32
    have hres : ({ x0 with rv := .slice Ar (rIDs B i s7).1.length cr } : Ev) = ((decE B).1.own x0.dv (.slice Ar (rIDs B i s7).1.length cr)) ∨ evC { x0 with rv := .slice Ar (rIDs B i s7).1.length cr } = evC ((decE B).1.own x0.dv (.slice Ar (rIDs B i s7).1.length cr)) := by
      right; rw [hdec, ← hx0]; rfl
    have hres : evC { x0 with rv := .slice Ar (rIDs B i s7).1.length cr } = evC ((decE B).1.own x0.dv (.slice Ar (rIDs B i s7).1.length cr)) := by
      rcases hres with h | h
      · rw [h]
      · exact h
    have hxdv : x0.dv = .slice Ad (rVec B 16 (rDot B r0).2).1.length cd := by rw [← hx0]
    generalize evC { x0 with rv := .slice Ar (rIDs B i s7).1.length cr } = cs at yl hone hres ⊢
    (refine so_nil ?_; refine sn_then ?_; refine sw_cond_f rfl ?_; refine sw_skip ?_; refine sn_then ?_; refine sw_seq ?_; refine sw_region ?_)
    refine so_ldA 4 rfl rfl rfl rfl rfl rfl (segO_all (by rw [yl]; rfl)) rfl ?_
    (refine so_1 rfl ?_)
    refine so_stW 8 rfl rfl rfl rfl rfl rfl rfl yl hone (by rw [yl]; rfl) ?_
    (refine so_s1 7 rfl rfl rfl rfl ?_; refine so_nil ?_; refine sn_then ?_; refine sw_ret ?_)
    refine sn_ret rfl (.whole 8 rfl rfl rfl rfl (by rw [yl]; rfl) (.agg 7 rfl rfl rfl rfl rfl .nil)) (ent_keep 9 [6, 5] rfl rfl) ?_
    refine ⟨x0.dv, .slice Ar (rIDs B i s7).1.length cr, ?_, ?_⟩
    · rw [hres, hdec]; rfl
    · rw [hxdv, hdec]
  · rw [if_pos h7] at hdec
    refine so_know 56 (.bool true) rfl (by simp [h7]) ?_
    (refine so_nil ?_; refine sn_then ?_; refine sw_cond_t rfl ?_; refine sw_seq ?_)
    refine sw_draw flo (pt g8 t_api_Fault [.int .i64 f1, .int .i64 f2] :: F) (by decide +kernel) (ent_keep 9 [0] rfl rfl) ?_
    (refine sd_1 rfl (.inl rfl) ?_; refine sd_l 0 rfl rfl rfl rfl ?_)
    refine sd_stW (vs := evC evZ) 8 rfl rfl rfl rfl rfl rfl rfl rfl hzl hz1 rfl (ent_keep 9 [0] rfl rfl) ?_
    refine sd_stW 7 rfl rfl rfl rfl rfl rfl rfl rfl rfl (by simp [Value.oneCell']) rfl (ent_keep 9 [0] rfl rfl) ?_
    refine sd_nil ?_
    (refine sn_then ?_; refine sw_ret ?_; refine sn_then_ret ?_)
    refine sn_ret rfl (.whole 8 rfl rfl rfl rfl rfl (.agg 7 rfl rfl rfl rfl rfl .nil)) ((ent_keep 9 [] rfl rfl).trans ((ent_row_nil t_api_ID 32 rfl).trans (ent_row_nil t_int 1 rfl))) ?_
    rw [hdec]
    exact ⟨_, _, rfl, rfl⟩
end
end Go.Proofs.YtaglpaoipdmboaaGreat
/- Which events may be: the program's parts of Check. Conditions: not too many. -/
namespace Go.Proofs.YtaglpaoipdmboaaGreat
open Go Go.Eng Go.RowKit

section
variable {b : World} {F : List SP} {e : Ev}
theorem id_cells {gA oA c : Nat} {l : List (List Int)} (h : ∀ w, Sat b F w → SL w 32 (.slice (some ⟨gA, oA, none⟩) l.length c) l.length (idsC l)) (hl : len32 l) {i : Nat} (hi : i < l.length) : ∀ w, Sat b F w → ∀ j, j < 32 → w.cell? ⟨gA, oA + i * 32 + j, none⟩ = (u8s l[i])[j]? :=
  fun w H j hj => fl_cell (f := u8s) (by rw [← idsC_fl]; exact h w H) (fun a h => by rw [u8s_len, hl a h]) hi hj
theorem eplaced1_S {x : Int} : SC Tryz.prog n_event_placed_1 [.int .i64 x] b F (fun v F' => v = .bool (!okNum x) ∧ F' = F) := by
  refine enterS F_event_placed_1 rfl rfl rfl ?_
  (refine sw_seq ?_; refine sw_region ?_; refine so_1 rfl ?_; refine so_nil ?_; refine sn_then ?_; refine sw_seq ?_; refine sw_region ?_; (iterate 3 refine so_1 rfl ?_))
  refine so_if 5 rfl (fun h => ?_) (fun h => ?_)
  · ((iterate 4 refine so_1 rfl ?_); refine so_nil ?_; refine sn_then ?_; refine sw_ret ?_)
    refine sn_ret rfl (.tmp rfl .nil) (Ent.refl _) ?_
    exact ⟨congrArg Value.bool (by simp only [okNum]; rw [decide_eq_false (show ¬ 0 ≤ x by omega)]; rfl), rfl⟩
  · ((iterate 4 refine so_1 rfl ?_); refine so_nil ?_; refine sn_then ?_; refine sw_ret ?_)
    refine sn_ret rfl (.tmp rfl .nil) (Ent.refl _) ?_
    exact ⟨congrArg Value.bool (by simp only [okNum]; rw [decide_eq_true (show 0 ≤ x by omega), Bool.true_and, Bool.eq_iff_iff]; simp), rfl⟩
set_option maxHeartbeats 1000000 in
theorem eplaced_S {n : Int} (he : ∀ w, Sat b F w → ER w e) (hd : dotOk (e.r, e.n)) (hl : e.deps.length ≤ 1000000) : SC Tryz.prog n_event_placed [evV e, .int .i64 n] b F (fun v F' => v = .bool (placedB e n) ∧ F' = F) := by
  have d1 := i64_of hd.1; have d2 := i64_of hd.2
  unfold I64 at d1 d2
  dsimp only at d1 d2
  refine enterS F_event_placed rfl rfl rfl ?_
  refine sw_fact (fun w H => (he w H).dv.form) ?_
  rintro ⟨A, c, hdv, h1, h2, h3, h4⟩
  (refine sw_seq ?_; refine sw_region ?_)
  refine so_box rfl rfl rfl rfl rfl fun g2 => ?_
  (refine so_1 rfl ?_; refine so_nil ?_; refine sn_then ?_; refine sw_seq ?_; refine sw_region ?_; refine so_1 rfl ?_; refine so_l 0 rfl rfl rfl ?_)
  refine so_new rfl rfl rfl rfl rfl fun g5 => ?_
  (refine so_s1 0 rfl rfl rfl rfl ?_; refine so_nil ?_; refine sn_then ?_; (iterate 2 refine sw_seq ?_); refine sw_region ?_; refine so_1 rfl ?_; refine so_l 0 rfl rfl rfl ?_; (iterate 2 refine so_1 rfl ?_))
  by_cases k1 : e.r < 1
  · refine so_know 11 (.bool true) rfl (congrArg Value.bool (decide_eq_true k1)) ?_
    ((iterate 22 refine so_1 rfl ?_); refine so_nil ?_; refine sn_then ?_; refine sw_cond_t rfl ?_; refine sw_seq ?_; refine sw_region ?_; refine so_1 rfl ?_; refine so_nil ?_; refine sn_then ?_; refine sw_ret ?_; refine sn_then_ret ?_)
    refine sn_ret rfl (.tmp rfl .nil) (ent_keep 2 [] rfl rfl) ?_
    exact ⟨congrArg Value.bool (by unfold placedB; rw [decide_eq_false (by omega)]; rfl), rfl⟩
  refine so_know 11 (.bool false) rfl (congrArg Value.bool (decide_eq_false k1)) ?_
  (refine so_1 rfl ?_; refine so_l 0 rfl rfl rfl ?_; (iterate 4 refine so_1 rfl ?_))
  by_cases k2 : n < e.r
  · refine so_know 17 (.bool true) rfl (congrArg Value.bool (decide_eq_true k2)) ?_
    ((iterate 16 refine so_1 rfl ?_); refine so_nil ?_; refine sn_then ?_; refine sw_cond_t rfl ?_; refine sw_seq ?_; refine sw_region ?_; refine so_1 rfl ?_; refine so_nil ?_; refine sn_then ?_; refine sw_ret ?_; refine sn_then_ret ?_)
    refine sn_ret rfl (.tmp rfl .nil) (ent_keep 2 [] rfl rfl) ?_
    exact ⟨congrArg Value.bool (by unfold placedB; rw [decide_eq_false (by omega)]; rfl), rfl⟩
  refine so_know 17 (.bool false) rfl (congrArg Value.bool (decide_eq_false k2)) ?_
  (refine so_1 rfl ?_; refine so_l 0 rfl rfl rfl ?_; (iterate 3 refine so_1 rfl ?_))
  by_cases k3 : e.n < 1
  · refine so_know 22 (.bool true) rfl (congrArg Value.bool (decide_eq_true k3)) ?_
    ((iterate 11 refine so_1 rfl ?_); refine so_nil ?_; refine sn_then ?_; refine sw_cond_t rfl ?_; refine sw_seq ?_; refine sw_region ?_; refine so_1 rfl ?_; refine so_nil ?_; refine sn_then ?_; refine sw_ret ?_; refine sn_then_ret ?_)
    refine sn_ret rfl (.tmp rfl .nil) (ent_keep 2 [] rfl rfl) ?_
    exact ⟨congrArg Value.bool (by unfold placedB; rw [decide_eq_false (by omega)]; rfl), rfl⟩
  refine so_know 22 (.bool false) rfl (congrArg Value.bool (decide_eq_false k3)) ?_
  (refine so_1 rfl ?_; refine so_l 0 rfl rfl rfl ?_; (iterate 3 refine so_1 rfl ?_))
  by_cases k4 : 1048576 < e.n
  · refine so_know 27 (.bool true) rfl (congrArg Value.bool (decide_eq_true k4)) ?_
    ((iterate 6 refine so_1 rfl ?_); refine so_nil ?_; refine sn_then ?_; refine sw_cond_t rfl ?_; refine sw_seq ?_; refine sw_region ?_; refine so_1 rfl ?_; refine so_nil ?_; refine sn_then ?_; refine sw_ret ?_; refine sn_then_ret ?_)
    refine sn_ret rfl (.tmp rfl .nil) (ent_keep 2 [] rfl rfl) ?_
    exact ⟨congrArg Value.bool (by unfold placedB; rw [decide_eq_false (by omega)]; rfl), rfl⟩
  refine so_know 27 (.bool false) rfl (congrArg Value.bool (decide_eq_false k4)) ?_
  have her : ∀ w, Sat b (pt g5 t_api_Dot [.int .i64 e.r, .int .i64 e.n] :: pt g2 t_api_Event (evC e) :: F) w → VL (Value.int .i64) w (.slice A e.deps.length c) e.deps := fun w H => by rw [← hdv]; exact (he w (H.ent (ent_keep 2 [] rfl rfl))).dv
  (refine so_1 rfl ?_; refine so_l 1 rfl rfl rfl ?_)
  rw [hdv]
  ((iterate 4 refine so_1 rfl ?_); refine so_nil ?_; refine sn_then ?_)
  refine sw_ifn rfl (fun k5 => ?_) (fun k5 => ?_)
  · (refine sw_seq ?_; refine sw_region ?_; refine so_1 rfl ?_; refine so_nil ?_; refine sn_then ?_; refine sw_ret ?_; refine sn_then_ret ?_)
    refine sn_ret rfl (.tmp rfl .nil) (ent_keep 2 [] rfl rfl) ?_
    exact ⟨congrArg Value.bool (by unfold placedB; rw [decide_eq_false (by omega)]; rfl), rfl⟩
  have k0 : decide (1 ≤ e.r ∧ e.r ≤ n ∧ 1 ≤ e.n ∧ e.n ≤ 1048576 ∧ (e.deps.length : Int) = n) = true := decide_eq_true (by omega)
  obtain ⟨bk, off, rfl⟩ := h4 (by omega)
  (refine sw_skip ?_; refine sn_then ?_; refine sw_seq ?_)
  refine sw_draw flo _ (by decide +kernel) (Ent.refl _) ?_
  (refine sd_1 rfl (.inl rfl) ?_; refine sd_l 1 rfl rfl rfl rfl ?_)
  rw [hdv]
  refine sd_callE rfl rfl rfl rfl ((CFnI_S (fun _ _ => eplaced1_S) her (by omega))) (Ent.refl _) ?_
  have hany : (!e.deps.any fun x => !okNum x) = e.deps.all okNum := by
    rw [Bool.eq_iff_iff]; simp [List.any_eq_false, List.all_eq_true]
  ((iterate 2 refine sd_1 rfl (.inl rfl) ?_))
  refine sd_know 38 (.bool (e.deps.all okNum)) rfl (congrArg Value.bool hany) ?_
  cases hall : e.deps.all okNum with
  | false =>
    ((iterate 13 refine sd_1 rfl (.inl rfl) ?_))
    refine sd_nil ?_
    (refine sn_then ?_; refine sw_ret ?_)
    refine sn_ret rfl (.tmp rfl .nil) (ent_keep 2 [] rfl rfl) ?_
    exact ⟨congrArg Value.bool (by unfold placedB; rw [hall]; simp), rfl⟩
  | true =>
    have hi : (e.r - 1).toNat < e.deps.length := by omega
    have hg : e.deps[(e.r - 1).toNat]?.getD 0 = e.deps[(e.r - 1).toNat] := by rw [List.getElem?_eq_getElem hi]; rfl
    (refine sd_1 rfl (.inl rfl) ?_; refine sd_l 1 rfl rfl rfl rfl ?_; refine sd_1 rfl (.inl rfl) ?_; refine sd_l 0 rfl rfl rfl rfl ?_; refine sd_2 rfl rfl (by (unfold I64; omega)) ?_)
    rw [hdv]
    (refine sd_2 rfl rfl (by omega) ?_)
    refine sd_rd rfl (fun w H => ex_load rfl rfl rfl (by rw [mulz_eq]; simpa using VL.at (her w H) (e.r - 1).toNat hi)) rfl rfl ?_
    (refine sd_1 rfl (.inl rfl) ?_; refine sd_l 0 rfl rfl rfl rfl ?_; refine sd_2 rfl rfl (by (unfold I64; omega)) ?_; (iterate 3 refine sd_1 rfl (.inl rfl) ?_))
    refine sd_nil ?_
    (refine sn_then ?_; refine sw_ret ?_)
    refine sn_ret rfl (.tmp rfl .nil) (ent_keep 2 [] rfl rfl) ?_
    exact ⟨congrArg Value.bool (by unfold placedB; rw [hall, k0, hg]; simp), rfl⟩
set_option maxHeartbeats 1000000 in
theorem IndexID_S {va : Value} {l : List (List Int)} {x : List Int} (ha : ∀ w, Sat b F w → SL w 32 va l.length (idsC l)) (hl : len32 l) (hx : x.length = 32) (hm : l.length ≤ 1000000) :
    SC Tryz.prog n_slices_Index_sl_api_ID_api_ID [va, idV x] b F (fun v F' => (∃ i : Int, v = .int .i64 i ∧ decide (0 ≤ i) = decide (x ∈ l)) ∧ F' = F) := by
  refine enterS F_slices_Index_sl_api_ID_api_ID rfl rfl rfl ?_
  refine sw_fact (fun w H => sl_form (ha w H)) ?_
  rintro ⟨A, c, rfl, h1, h2, h3, h4, _⟩
  (refine sw_seq ?_; refine sw_region ?_)
  refine so_box rfl rfl rfl rfl rfl fun g3 => ?_
  (refine so_1 rfl ?_; refine so_nil ?_; refine sn_then ?_; (iterate 2 refine sw_seq ?_); refine sw_region ?_; (iterate 3 refine so_1 rfl ?_); refine so_nil ?_; refine sn_then ?_; refine sw_block ?_)
  refine sw_loop (S := Nat) (fun i => [(0, .slice A l.length c), (3, .pointer (some ⟨g3, 0, none⟩)), (7, .int .i64 l.length), (8, .int .i64 (i : Int))]) (fun _ => pt g3 t_api_ID (u8s x) :: F) (fun i => i ≤ l.length ∧ x ∉ l.take i) (fun i => l.length - i) 0 ⟨rfl, rfl, rfl, rfl, trivial⟩ (Ent.refl _) ⟨Nat.zero_le _, by simp⟩ ?_
  rintro i ⟨hi, hk⟩
  (refine sw_seq ?_; refine sw_region ?_; refine so_1 rfl ?_; refine so_nil ?_; refine sn_then ?_; refine sw_seq ?_)
  refine sw_if rfl (fun h => ?_) (fun h => ?_)
  · have h' : i < l.length := by omega
    obtain ⟨gA, oA, rfl⟩ := h4 (by omega)
    have ca := id_cells ha hl h'
    have hy := hl _ (List.getElem_mem h')
    have hmem := List.getElem_mem h'
    have htk := List.take_succ_eq_append_getElem h'
    generalize l[i] = y at ca hy hmem htk
    (refine sw_skip ?_; refine sn_then ?_; refine sw_seq ?_; refine sw_block ?_; refine sw_seq ?_; refine sw_region ?_; (iterate 2 refine so_1 rfl ?_); refine so_nil ?_; refine sn_then ?_; refine sw_seq ?_)
    refine sw_draw flo _ (by decide +kernel) (Ent.refl _) ?_
    refine sd_ldA 0 rfl rfl rfl rfl rfl rfl (segID hx) rfl rfl ?_
    ((iterate 2 refine sd_1 rfl (.inl rfl) ?_); refine sd_2 rfl rfl (by omega) ?_)
    refine sd_rd rfl (fun w H => ex_loadN (cs := u8s y) rfl rfl rfl (by rw [u8s_len, hy]; rfl) (fun j hj => by rw [mulz_eq, Int.toNat_natCast]; exact ca w (H.ent (ent_keep 1 [] rfl rfl)) j (by rw [u8s_len, hy] at hj; exact hj))) rfl rfl ?_
    refine sd_pu rfl (pu_eqI (as00 := x) (bs := y) rfl rfl hx hy) rfl rfl ?_
    by_cases hxy : x = y
    · refine sd_know 16 (.bool true) rfl (congrArg Value.bool (decide_eq_true hxy)) ?_
      refine sd_nil ?_
      (refine sn_then ?_; refine sw_cond_t rfl ?_; refine sw_seq ?_; refine sw_region ?_; (iterate 2 refine so_1 rfl ?_); refine so_nil ?_; refine sn_then ?_; refine sw_ret ?_; refine sn_block_ret ?_; refine sn_then_ret ?_; refine sn_loop_ret ?_; refine sn_block_ret ?_; refine sn_then_ret ?_)
      refine sn_ret rfl (.tmp rfl .nil) (ent_keep 1 [] rfl rfl) ?_
      exact ⟨⟨i, rfl, by rw [decide_eq_true (by omega), decide_eq_true (by rw [hxy]; exact hmem)]⟩, rfl⟩
    · refine sd_know 16 (.bool false) rfl (congrArg Value.bool (decide_eq_false hxy)) ?_
      refine sd_nil ?_
      (refine sn_then ?_; refine sw_cond_f rfl ?_; refine sw_skip ?_; refine sn_block ?_; refine sn_then ?_; refine sw_region ?_; refine so_2 rfl (by (unfold I64; omega)) ?_; refine so_1 rfl ?_; refine so_nil ?_)
      refine sn_round (i + 1) ⟨rfl, rfl, rfl, rfl, trivial⟩ (Ent.refl _) ⟨h', ?_⟩ (by omega)
      rw [htk]
      simp [hk, hxy]
  · (refine sw_exit ?_; refine sn_then_exit ?_; refine sn_loop_exit ?_; refine sn_block_exit ?_; refine sn_then ?_; refine sw_seq ?_; refine sw_region ?_; refine so_1 rfl ?_; refine so_nil ?_; refine sn_then ?_; refine sw_ret ?_)
    refine sn_ret rfl (.tmp rfl .nil) (ent_keep 1 [] rfl rfl) ?_
    refine ⟨⟨-1, rfl, ?_⟩, rfl⟩
    rw [List.take_of_length_le (by omega)] at hk
    rw [decide_eq_false hk]; rfl
theorem ContainsID_S {va : Value} {l : List (List Int)} {x : List Int} (ha : ∀ w, Sat b F w → SL w 32 va l.length (idsC l)) (hl : len32 l) (hx : x.length = 32) (hm : l.length ≤ 1000000) :
    SC Tryz.prog n_slices_Contains_sl_api_ID_api_ID [va, idV x] b F (fun v F' => v = .bool (decide (x ∈ l)) ∧ F' = F) := by
  refine enterS F_slices_Contains_sl_api_ID_api_ID rfl rfl rfl ?_
  (refine sw_seq ?_; refine sw_region ?_)
  refine so_box rfl rfl rfl rfl rfl fun g3 => ?_
  (refine so_1 rfl ?_; refine so_nil ?_; refine sn_then ?_; refine sw_seq ?_; refine sw_region ?_; refine so_1 rfl ?_)
  refine so_ldA 0 rfl rfl rfl rfl rfl rfl (segID hx) rfl ?_
  refine so_call rfl rfl rfl (IndexID_S (up ha (ent_keep 1 [] rfl rfl)) hl hx hm) ?_
  rintro _ _ ⟨⟨i, rfl, hi⟩, rfl⟩
  ((iterate 2 refine so_1 rfl ?_); refine so_nil ?_; refine sn_then ?_; refine sw_ret ?_)
  refine sn_ret rfl (.tmp rfl .nil) (ent_keep 1 [] rfl rfl) ?_
  exact ⟨congrArg Value.bool hi, rfl⟩
theorem refs1_S {x : List Int} {w0 : Int} {g5 : Nat} (hx : x.length = 32) : SC Tryz.prog n_event_refs_1 [idV x, .pointer (some ⟨g5, 0, none⟩)] b (pt g5 t_int [.int .i64 w0] :: F) (fun v F' => v = .bool (!hasM x w0) ∧ F' = pt g5 t_int [.int .i64 w0] :: F) := by
  refine enterS F_event_refs_1 rfl rfl rfl ?_
  (refine sw_seq ?_; refine sw_region ?_)
  refine so_box rfl rfl rfl rfl rfl fun g2 => ?_
  (refine so_1 rfl ?_; refine so_nil ?_; refine sn_then ?_; refine sw_seq ?_; refine sw_region ?_)
  refine so_ldA 0 rfl rfl rfl rfl rfl rfl (segID hx) rfl ?_
  (refine so_l 1 rfl rfl rfl ?_)
  refine so_callE rfl rfl rfl (Has_S hx) ?_
  ((iterate 2 refine so_1 rfl ?_); refine so_nil ?_; refine sn_then ?_; refine sw_ret ?_)
  refine sn_ret rfl (.tmp rfl .nil) (ent_keep 1 [] rfl rfl) ?_
  exact ⟨rfl, rfl⟩
abbrev refsFn (g5 : Nat) : Value := .func (.func n_event_refs_1) ⟨[]⟩ ⟨[.pointer (some ⟨g5, 0, none⟩)]⟩
theorem IxIDf_S {va : Value} {l : List (List Int)} {w0 : Int} {g5 : Nat} (ha : ∀ w, Sat b (pt g5 t_int [.int .i64 w0] :: F) w → SL w 32 va l.length (idsC l)) (hl : len32 l) (hm : l.length ≤ 1000000) :
    SC Tryz.prog n_slices_IndexFunc_sl_api_ID_api_ID [va, refsFn g5] b (pt g5 t_int [.int .i64 w0] :: F) (fun v F' => (∃ i : Int, v = .int .i64 i ∧ decide (0 ≤ i) = !(l.all fun x => hasM x w0)) ∧ F' = pt g5 t_int [.int .i64 w0] :: F) := by
  refine enterS F_slices_IndexFunc_sl_api_ID_api_ID rfl rfl rfl ?_
  refine sw_fact (fun w H => sl_form (ha w H)) ?_
  rintro ⟨A, c, rfl, h1, h2, h3, h4, _⟩
  (refine sw_seq ?_; refine sw_region ?_; refine so_1 rfl ?_; refine so_nil ?_; refine sn_then ?_; (iterate 2 refine sw_seq ?_); refine sw_region ?_; (iterate 3 refine so_1 rfl ?_); refine so_nil ?_; refine sn_then ?_; refine sw_block ?_)
  refine sw_loop (S := Nat) (fun i => [(0, .slice A l.length c), (1, refsFn g5), (7, .int .i64 l.length), (8, .int .i64 (i : Int))]) (fun _ => pt g5 t_int [.int .i64 w0] :: F) (fun i => i ≤ l.length ∧ ((l.take i).all fun x => hasM x w0) = true) (fun i => l.length - i) 0 ⟨rfl, rfl, rfl, rfl, trivial⟩ (Ent.refl _) ⟨Nat.zero_le _, rfl⟩ ?_
  rintro i ⟨hi, hk⟩
  (refine sw_seq ?_; refine sw_region ?_; refine so_1 rfl ?_; refine so_nil ?_; refine sn_then ?_; refine sw_seq ?_)
  refine sw_if rfl (fun h => ?_) (fun h => ?_)
  · have h' : i < l.length := by omega
    obtain ⟨gA, oA, rfl⟩ := h4 (by omega)
    have ca := id_cells ha hl h'
    have hy := hl _ (List.getElem_mem h')
    have hmem := List.getElem_mem h'
    have htk := List.take_succ_eq_append_getElem h'
    generalize l[i] = y at ca hy hmem htk
    (refine sw_skip ?_; refine sn_then ?_; refine sw_seq ?_; refine sw_block ?_; refine sw_seq ?_; refine sw_region ?_; (iterate 2 refine so_1 rfl ?_); refine so_nil ?_; refine sn_then ?_; refine sw_seq ?_; refine sw_region ?_; (iterate 3 refine so_1 rfl ?_); refine so_2 rfl (by omega) ?_)
    refine so_rd rfl (fun w H => ex_loadN (cs := u8s y) rfl rfl rfl (by rw [u8s_len, hy]; rfl) (fun j hj => by rw [mulz_eq, Int.toNat_natCast]; exact ca w H j (by rw [u8s_len, hy] at hj; exact hj))) rfl ?_
    refine so_callE rfl rfl rfl (refs1_S hy) ?_
    cases hh : hasM y w0 with
    | false =>
      (refine so_nil ?_; refine sn_then ?_; refine sw_cond_t rfl ?_; refine sw_seq ?_; refine sw_region ?_; (iterate 2 refine so_1 rfl ?_); refine so_nil ?_; refine sn_then ?_; refine sw_ret ?_; refine sn_block_ret ?_; refine sn_then_ret ?_; refine sn_loop_ret ?_; refine sn_block_ret ?_; refine sn_then_ret ?_)
      refine sn_ret rfl (.tmp rfl .nil) (Ent.refl _) ?_
      refine ⟨⟨i, rfl, ?_⟩, rfl⟩
      rw [decide_eq_true (by omega), eq_comm]
      cases hall : l.all fun x => hasM x w0 with
      | false => rfl
      | true => have := List.all_eq_true.1 hall y hmem; rw [hh] at this; cases this
    | true =>
      (refine so_nil ?_; refine sn_then ?_; refine sw_cond_f rfl ?_; refine sw_skip ?_; refine sn_block ?_; refine sn_then ?_; refine sw_region ?_; refine so_2 rfl (by (unfold I64; omega)) ?_; refine so_1 rfl ?_; refine so_nil ?_)
      refine sn_round (i + 1) ⟨rfl, rfl, rfl, rfl, trivial⟩ (Ent.refl _) ⟨h', ?_⟩ (by omega)
      rw [htk, List.all_append, hk]
      simp [hh]
  · (refine sw_exit ?_; refine sn_then_exit ?_; refine sn_loop_exit ?_; refine sn_block_exit ?_; refine sn_then ?_; refine sw_seq ?_; refine sw_region ?_; refine so_1 rfl ?_; refine so_nil ?_; refine sn_then ?_; refine sw_ret ?_)
    refine sn_ret rfl (.tmp rfl .nil) (Ent.refl _) ?_
    refine ⟨⟨-1, rfl, ?_⟩, rfl⟩
    rw [List.take_of_length_le (by omega)] at hk
    rw [hk]; rfl
theorem CFnID_S {va : Value} {l : List (List Int)} {w0 : Int} {g5 : Nat} (ha : ∀ w, Sat b (pt g5 t_int [.int .i64 w0] :: F) w → SL w 32 va l.length (idsC l)) (hl : len32 l) (hm : l.length ≤ 1000000) :
    SC Tryz.prog n_slices_ContainsFunc_sl_api_ID_api_ID [va, refsFn g5] b (pt g5 t_int [.int .i64 w0] :: F) (fun v F' => v = .bool (!(l.all fun x => hasM x w0)) ∧ F' = pt g5 t_int [.int .i64 w0] :: F) := by
  refine enterS F_slices_ContainsFunc_sl_api_ID_api_ID rfl rfl rfl ?_
  (refine sw_seq ?_; refine sw_region ?_; refine so_1 rfl ?_; refine so_nil ?_; refine sn_then ?_; refine sw_seq ?_; refine sw_region ?_; (iterate 2 refine so_1 rfl ?_))
  refine so_call rfl rfl rfl (IxIDf_S ha hl hm) ?_
  rintro _ _ ⟨⟨i, rfl, hi⟩, rfl⟩
  ((iterate 2 refine so_1 rfl ?_); refine so_nil ?_; refine sn_then ?_; refine sw_ret ?_)
  refine sn_ret rfl (.tmp rfl .nil) (Ent.refl _) ?_
  exact ⟨congrArg Value.bool hi, rfl⟩
end
end Go.Proofs.YtaglpaoipdmboaaGreat
/- Which events may be: the program's Check. Conditions: not too many. -/
namespace Go.Proofs.YtaglpaoipdmboaaGreat
open Go Go.Eng Go.RowKit

abbrev fnV (f : Nat) : Value := .func (.func f) ⟨[]⟩ ⟨[]⟩
def kindsC : List Value := [fnV n_event_plain, fnV n_event_given, .bool true, fnV n_event_plain, fnV n_event_given, .bool false, fnV n_event_tagged, fnV n_event_given, .bool true, fnV n_event_tagged, fnV n_event_none, .bool false]
theorem riseB_true {l : List (List Int)} (h : ∀ i, i + 1 < l.length → cmpM (l[i]?.getD []) (l[i + 1]?.getD []) < 0) : riseB l = true := by
  unfold riseB
  rw [List.all_eq_true]
  intro i hi
  have := List.mem_range.1 hi
  exact decide_eq_true (h i (by omega))
theorem riseB_false {l : List (List Int)} {i : Nat} (hi : i + 1 < l.length) (h : ¬ cmpM (l[i]?.getD []) (l[i + 1]?.getD []) < 0) : riseB l = false := by
  cases hr : riseB l with
  | false => rfl
  | true =>
    unfold riseB at hr
    have := List.all_eq_true.1 hr i (List.mem_range.2 (by omega))
    exact absurd (of_decide_eq_true this) h
section
variable {b : World} {F : List SP} {e : Ev}
theorem eplain_S {s : ByteArray} : SC Tryz.prog n_event_plain [.string s] b F (fun v F' => v = .int .i64 (if s.size = 0 then 0 else 2) ∧ F' = F) := by
  refine enterS F_event_plain rfl rfl rfl ?_
  (refine sw_seq ?_; refine sw_region ?_; refine so_1 rfl ?_; refine so_nil ?_; refine sn_then ?_; (iterate 2 refine sw_seq ?_); refine sw_region ?_; (iterate 2 refine so_1 rfl ?_); refine so_nil ?_; refine sn_then ?_)
  refine sw_ifn rfl (fun h1 => ?_) (fun h1 => ?_)
  · have hz : s.size ≠ 0 := fun h0 => h1 (by first | exact Array.eq_empty_of_size_eq_zero h0 | exact ByteArray.ext (Array.eq_empty_of_size_eq_zero h0))
    (refine sw_seq ?_; refine sw_region ?_; refine so_1 rfl ?_; refine so_nil ?_; refine sn_then ?_; refine sw_ret ?_; refine sn_then_ret ?_)
    refine sn_ret rfl (.tmp rfl .nil) (Ent.refl _) ?_
    rw [if_neg hz]; exact ⟨rfl, rfl⟩
  · have hz : s.size = 0 := by show s.data.size = 0; rw [h1]; rfl
    (refine sw_skip ?_; refine sn_then ?_; refine sw_seq ?_; refine sw_region ?_; refine so_1 rfl ?_; refine so_nil ?_; refine sn_then ?_; refine sw_ret ?_)
    refine sn_ret rfl (.tmp rfl .nil) (Ent.refl _) ?_
    rw [if_pos hz]; exact ⟨rfl, rfl⟩
theorem etagged_S {s : ByteArray} : SC Tryz.prog n_event_tagged [.string s] b F (fun v F' => v = .int .i64 (if tagF (strI s) = (0, 0) then 0 else 7) ∧ F' = F) := by
  refine enterS F_event_tagged rfl rfl rfl ?_
  (refine sw_seq ?_; refine sw_region ?_; refine so_1 rfl ?_; refine so_nil ?_; refine sn_then ?_; (iterate 2 refine sw_seq ?_); refine sw_region ?_; refine so_1 rfl ?_)
  refine so_callE rfl rfl rfl (Tag_S) ?_
  (refine so_1 rfl ?_)
  refine so_pu rfl (pu_neA rfl rfl (eq_fault (tagF (strI s)).1 (tagF (strI s)).2 0 0)) rfl ?_
  by_cases h : tagF (strI s) = (0, 0)
  · rw [if_pos h, h]
    (refine so_nil ?_; refine sn_then ?_; refine sw_cond_f rfl ?_; refine sw_skip ?_; refine sn_then ?_; refine sw_seq ?_; refine sw_region ?_; refine so_1 rfl ?_; refine so_nil ?_; refine sn_then ?_; refine sw_ret ?_)
    refine sn_ret rfl (.tmp rfl .nil) (Ent.refl _) ?_
    exact ⟨rfl, rfl⟩
  · rw [if_neg h]
    refine so_know 6 (.bool true) rfl (by
      have : ¬ ((tagF (strI s)).1 = 0 ∧ (tagF (strI s)).2 = 0) := fun hc => h (Prod.ext hc.1 hc.2)
      rw [decide_eq_false this]; rfl) ?_
    (refine so_nil ?_; refine sn_then ?_; refine sw_cond_t rfl ?_; refine sw_seq ?_; refine sw_region ?_; refine so_1 rfl ?_; refine so_nil ?_; refine sn_then ?_; refine sw_ret ?_; refine sn_then_ret ?_)
    refine sn_ret rfl (.tmp rfl .nil) (Ent.refl _) ?_
    exact ⟨rfl, rfl⟩
theorem egiven_S {x : List Int} {w : Int} (hx : x.length = 32) : SC Tryz.prog n_event_given [idV x, .int .i64 w] b F (fun v F' => v = .int .i64 (if hasM x w = true then 0 else 8) ∧ F' = F) := by
  refine enterS F_event_given rfl rfl rfl ?_
  (refine sw_seq ?_; refine sw_region ?_)
  refine so_box rfl rfl rfl rfl rfl fun g2 => ?_
  (refine so_1 rfl ?_; refine so_nil ?_; refine sn_then ?_; (iterate 2 refine sw_seq ?_); refine sw_region ?_)
  refine so_ldA 0 rfl rfl rfl rfl rfl rfl (segID hx) rfl ?_
  (refine so_1 rfl ?_)
  refine so_callE rfl rfl rfl (Has_S hx) ?_
  (refine so_1 rfl ?_; refine so_nil ?_; refine sn_then ?_)
  cases h : hasM x w with
  | true =>
    (refine sw_cond_f rfl ?_; refine sw_skip ?_; refine sn_then ?_; refine sw_seq ?_; refine sw_region ?_; refine so_1 rfl ?_; refine so_nil ?_; refine sn_then ?_; refine sw_ret ?_)
    refine sn_ret rfl (.tmp rfl .nil) (ent_keep 1 [] rfl rfl) ?_
    exact ⟨rfl, rfl⟩
  | false =>
    (refine sw_cond_t rfl ?_; refine sw_seq ?_; refine sw_region ?_; refine so_1 rfl ?_; refine so_nil ?_; refine sn_then ?_; refine sw_ret ?_; refine sn_then_ret ?_)
    refine sn_ret rfl (.tmp rfl .nil) (ent_keep 1 [] rfl rfl) ?_
    exact ⟨rfl, rfl⟩
theorem enone_S {x : List Int} {w : Int} (hx : x.length = 32) : SC Tryz.prog n_event_none [idV x, .int .i64 w] b F (fun v F' => v = .int .i64 (if x = List.replicate 32 0 then 0 else 8) ∧ F' = F) := by
  refine enterS F_event_none rfl rfl rfl ?_
  (refine sw_seq ?_; refine sw_region ?_)
  refine so_box rfl rfl rfl rfl rfl fun g2 => ?_
  (refine so_1 rfl ?_; refine so_nil ?_; refine sn_then ?_; (iterate 2 refine sw_seq ?_); refine sw_region ?_)
  refine so_ldA 0 rfl rfl rfl rfl rfl rfl (segID hx) rfl ?_
  (refine so_1 rfl ?_)
  refine so_know 6 (idV (List.replicate 32 0)) rfl rfl ?_
  refine so_pu rfl (pu_neI (as00 := x) (bs := List.replicate 32 0) rfl rfl hx rfl) rfl ?_
  by_cases h : x = List.replicate 32 0
  · rw [if_pos h]
    refine so_know 7 (.bool false) rfl (by rw [decide_eq_true h]; rfl) ?_
    (refine so_nil ?_; refine sn_then ?_; refine sw_cond_f rfl ?_; refine sw_skip ?_; refine sn_then ?_; refine sw_seq ?_; refine sw_region ?_; refine so_1 rfl ?_; refine so_nil ?_; refine sn_then ?_; refine sw_ret ?_)
    refine sn_ret rfl (.tmp rfl .nil) (ent_keep 1 [] rfl rfl) ?_
    exact ⟨rfl, rfl⟩
  · rw [if_neg h]
    refine so_know 7 (.bool true) rfl (by rw [decide_eq_false h]; rfl) ?_
    (refine so_nil ?_; refine sn_then ?_; refine sw_cond_t rfl ?_; refine sw_seq ?_; refine sw_region ?_; refine so_1 rfl ?_; refine so_nil ?_; refine sn_then ?_; refine sw_ret ?_; refine sn_then_ret ?_)
    refine sn_ret rfl (.tmp rfl .nil) (ent_keep 1 [] rfl rfl) ?_
    exact ⟨rfl, rfl⟩
theorem kinds_S : SC Tryz.prog n_event_kinds [] b F (fun v F' => v = .agg ⟨kindsC⟩ ∧ F' = F) := by
  refine enterS F_event_kinds rfl rfl rfl ?_
  (refine sw_seq ?_; refine sw_region ?_)
  refine so_new rfl rfl rfl rfl rfl fun g0 => ?_
  (refine so_nil ?_; refine sn_then ?_; refine sw_seq ?_; refine sw_region ?_; (iterate 5 refine so_1 rfl ?_); refine so_s1 0 rfl rfl rfl rfl ?_; refine so_nil ?_; refine sn_then ?_; refine sw_ret ?_)
  refine sn_ret rfl (.agg 0 rfl rfl rfl rfl rfl .nil) (ent_keep 1 [] rfl rfl) ?_
  exact ⟨rfl, rfl⟩
set_option maxRecDepth 20000 in
set_option maxHeartbeats 1000000 in
theorem erefs_S {asked : Bool} {w0 : Int} (he : ∀ w, Sat b F w → ER w e) (hw : EW e) (hl : EvL e) : SC Tryz.prog n_event_refs [evV e, .bool asked, .int .i64 w0] b F (fun v F' => v = .int .i64 (refsE e asked w0) ∧ F' = F) := by
  have h32 := hw.l32
  have hr32 := hw.r32
  have hrn := hl.rn
  refine enterS F_event_refs rfl rfl rfl ?_
  refine sw_fact (fun w H => sl_form (he w H).rv) ?_
  rintro ⟨A, c, hrv, h1, h2, h3, h4, _⟩
  (refine sw_seq ?_; refine sw_region ?_)
  refine so_box rfl rfl rfl rfl rfl fun g3 => ?_
  skip
  refine so_box rfl rfl rfl rfl rfl fun g5 => ?_
  (refine so_1 rfl ?_; refine so_nil ?_; refine sn_then ?_; refine sw_seq ?_; refine sw_region ?_; refine so_1 rfl ?_)
  refine so_ld 1 rfl rfl rfl rfl rfl rfl (evC_rv h32) rfl ?_
  have her : ∀ w, Sat b (pt g5 t_int [.int .i64 w0] :: pt g3 t_api_Event (evC e) :: F) w → SL w 32 (.slice A e.refs.length c) e.refs.length (idsC e.refs) := fun w H => by rw [← hrv]; exact (he w (H.ent (ent_keep 2 [] rfl rfl))).rv
  rw [hrv]
  (refine so_1 rfl ?_; refine so_nil ?_; refine sn_then ?_; (iterate 2 refine sw_seq ?_); refine sw_region ?_; (iterate 2 refine so_1 rfl ?_); refine so_nil ?_; refine sn_then ?_)
  cases asked with
  | false =>
    (refine sw_cond_t rfl ?_; (iterate 2 refine sw_seq ?_); refine sw_region ?_; (iterate 3 refine so_1 rfl ?_); refine so_nil ?_; refine sn_then ?_)
    refine sw_if rfl (fun h => ?_) (fun h => ?_)
    · (refine sw_seq ?_; refine sw_region ?_; refine so_1 rfl ?_; refine so_nil ?_; refine sn_then ?_; refine sw_ret ?_; (iterate 2 refine sn_then_ret ?_))
      refine sn_ret rfl (.tmp rfl .nil) (ent_keep 2 [] rfl rfl) ?_
      unfold refsE; rw [if_pos rfl, if_neg (by omega)]
      exact ⟨rfl, rfl⟩
    · (refine sw_skip ?_; refine sn_then ?_; refine sw_seq ?_; refine sw_region ?_; refine so_1 rfl ?_; refine so_nil ?_; refine sn_then ?_; refine sw_ret ?_; refine sn_then_ret ?_)
      refine sn_ret rfl (.tmp rfl .nil) (ent_keep 2 [] rfl rfl) ?_
      unfold refsE; rw [if_pos rfl, if_pos (by omega)]
      exact ⟨rfl, rfl⟩
  | true =>
    have hr : refsE e true w0 = if e.refs.length = 0 ∨ 256 < e.refs.length ∨ e.id ∉ e.refs ∨ riseB e.refs = false then 2 else if (e.refs.all fun x => hasM x w0) = true then 0 else 8 := by unfold refsE; rw [if_neg (by simp)]
    (refine sw_cond_f rfl ?_; refine sw_skip ?_; refine sn_then ?_; (iterate 2 refine sw_seq ?_); refine sw_region ?_; (iterate 4 refine so_1 rfl ?_))
    refine so_if 19 rfl (fun k1 => ?_) (fun k1 => ?_)
    · rw [if_pos (.inl (by omega))] at hr
      ((iterate 11 refine so_1 rfl ?_); refine so_nil ?_; refine sn_then ?_; refine sw_cond_t rfl ?_; refine sw_seq ?_; refine sw_region ?_; refine so_1 rfl ?_; refine so_nil ?_; refine sn_then ?_; refine sw_ret ?_; refine sn_then_ret ?_)
      refine sn_ret rfl (.tmp rfl .nil) (ent_keep 2 [] rfl rfl) ?_
      rw [hr]; exact ⟨rfl, rfl⟩
    ((iterate 5 refine so_1 rfl ?_))
    refine so_if 24 rfl (fun k2 => ?_) (fun k2 => ?_)
    · rw [if_pos (.inr (.inl (by omega)))] at hr
      ((iterate 6 refine so_1 rfl ?_); refine so_nil ?_; refine sn_then ?_; refine sw_cond_t rfl ?_; refine sw_seq ?_; refine sw_region ?_; refine so_1 rfl ?_; refine so_nil ?_; refine sn_then ?_; refine sw_ret ?_; refine sn_then_ret ?_)
      refine sn_ret rfl (.tmp rfl .nil) (ent_keep 2 [] rfl rfl) ?_
      rw [hr]; exact ⟨rfl, rfl⟩
    ((iterate 2 refine so_1 rfl ?_))
    refine so_ldA 1 rfl rfl rfl rfl rfl rfl (evC_id h32) rfl ?_
    refine so_callE rfl rfl rfl (ContainsID_S her hr32 h32 hrn) ?_
    ((iterate 2 refine so_1 rfl ?_); refine so_nil ?_; refine sn_then ?_)
    by_cases k3 : e.id ∉ e.refs
    · rw [if_pos (.inr (.inr (.inl k3)))] at hr
      rw [decide_eq_false k3]
      (refine sw_cond_t rfl ?_; refine sw_seq ?_; refine sw_region ?_; refine so_1 rfl ?_; refine so_nil ?_; refine sn_then ?_; refine sw_ret ?_; refine sn_then_ret ?_)
      refine sn_ret rfl (.tmp rfl .nil) (ent_keep 2 [] rfl rfl) ?_
      rw [hr]; exact ⟨rfl, rfl⟩
    have k3' : e.id ∈ e.refs := Decidable.byContradiction k3
    rw [decide_eq_true k3']
    obtain ⟨gA, oA, rfl⟩ := h4 (by omega)
    (refine sw_cond_f rfl ?_; refine sw_skip ?_; refine sn_then ?_; (iterate 2 refine sw_seq ?_); refine sw_region ?_; refine so_1 rfl ?_; refine so_2 rfl (by omega) ?_; (iterate 2 refine so_1 rfl ?_); refine so_nil ?_; refine sn_then ?_; refine sw_block ?_)
    refine sw_loop (S := Nat) (fun i => [(7, .slice (some ⟨gA, oA, none⟩) e.refs.length c), (5, .pointer (some ⟨g5, 0, none⟩)), (33, .int .i64 ((e.refs.length - 1 : Nat) : Int)), (34, .int .i64 (i : Int))]) (fun _ => pt g5 t_int [.int .i64 w0] :: pt g3 t_api_Event (evC e) :: F) (fun i => i ≤ e.refs.length - 1 ∧ ∀ j, j < i → cmpM (e.refs[j]?.getD []) (e.refs[j + 1]?.getD []) < 0) (fun i => e.refs.length - 1 - i) 0 ⟨rfl, rfl, rfl, rfl, trivial⟩ (Ent.refl _) ⟨Nat.zero_le _, fun j hj => absurd hj (Nat.not_lt_zero j)⟩ ?_
    rintro i ⟨hi, hk⟩
    (refine sw_seq ?_; refine sw_region ?_; refine so_1 rfl ?_; refine so_nil ?_; refine sn_then ?_; refine sw_seq ?_)
    refine sw_if rfl (fun h => ?_) (fun h => ?_)
    · have i1 : i < e.refs.length := by omega
      have i2 : i + 1 < e.refs.length := by omega
      have ca := id_cells her hr32 i1
      have cb := id_cells her hr32 i2
      have hx := hr32 _ (List.getElem_mem i1)
      have hy := hr32 _ (List.getElem_mem i2)
      have ex : e.refs[i]?.getD [] = e.refs[i] := by rw [List.getElem?_eq_getElem i1]; rfl
      have ey : e.refs[i + 1]?.getD [] = e.refs[i + 1] := by rw [List.getElem?_eq_getElem i2]; rfl
      have hsucc : ((i : Int) + 1).toNat = i + 1 := by omega
      generalize e.refs[i] = x at ca hx ex
      generalize e.refs[i + 1] = y at cb hy ey
      (refine sw_skip ?_; refine sn_then ?_; refine sw_seq ?_; refine sw_block ?_; refine sw_seq ?_; refine sw_region ?_; (iterate 2 refine so_1 rfl ?_); refine so_nil ?_; refine sn_then ?_; refine sw_seq ?_)
      refine sw_draw flo _ (by decide +kernel) (Ent.refl _) ?_
      ((iterate 2 refine sd_1 rfl (.inl rfl) ?_); refine sd_2 rfl rfl (by omega) ?_)
      refine sd_rd rfl (fun w H => ex_loadN (cs := u8s x) rfl rfl rfl (by rw [u8s_len, hx]; rfl) (fun j hj => by rw [mulz_eq, Int.toNat_natCast]; exact ca w H j (by rw [u8s_len, hx] at hj; exact hj))) rfl rfl ?_
      ((iterate 2 refine sd_1 rfl (.inl rfl) ?_); refine sd_2 rfl rfl (by (unfold I64; omega)) ?_; refine sd_2 rfl rfl (by omega) ?_)
      refine sd_rd rfl (fun w H => ex_loadN (cs := u8s y) rfl rfl rfl (by rw [u8s_len, hy]; rfl) (fun j hj => by rw [mulz_eq, hsucc]; exact cb w H j (by rw [u8s_len, hy] at hj; exact hj))) rfl rfl ?_
      refine sd_callE rfl rfl rfl rfl ((Compare_S hx hy)) (Ent.refl _) ?_
      (refine sd_1 rfl (.inl rfl) ?_)
      refine sd_nil ?_
      (refine sn_then ?_)
      refine sw_if rfl (fun h5 => ?_) (fun h5 => ?_)
      · rw [if_pos (.inr (.inr (.inr (riseB_false i2 (by rw [ex, ey]; omega)))))] at hr
        (refine sw_seq ?_; refine sw_region ?_; refine so_1 rfl ?_; refine so_nil ?_; refine sn_then ?_; refine sw_ret ?_; refine sn_block_ret ?_; refine sn_then_ret ?_; refine sn_loop_ret ?_; refine sn_block_ret ?_; refine sn_then_ret ?_)
        refine sn_ret rfl (.tmp rfl .nil) (ent_keep 2 [] rfl rfl) ?_
        rw [hr]; exact ⟨rfl, rfl⟩
      · (refine sw_skip ?_; refine sn_block ?_; refine sn_then ?_; refine sw_region ?_; refine so_2 rfl (by (unfold I64; omega)) ?_; refine so_1 rfl ?_; refine so_nil ?_)
        rw [show (i : Int) + 1 = ((i + 1 : Nat) : Int) by omega]
        refine sn_round (i + 1) ⟨rfl, rfl, rfl, rfl, trivial⟩ (Ent.refl _) ⟨by omega, fun j hj => ?_⟩ (by omega)
        by_cases e9 : j = i
        · subst e9; rw [ex, ey]; omega
        · exact hk j (by omega)
    have hrise := riseB_true (l := e.refs) fun j hj => hk j (by omega)
    rw [if_neg (by
      rintro (h9 | h9 | h9 | h9)
      · omega
      · omega
      · exact h9 k3'
      · rw [hrise] at h9; cases h9)] at hr
    (refine sw_exit ?_; refine sn_then_exit ?_; refine sn_loop_exit ?_; refine sn_block_exit ?_; refine sn_then ?_; (iterate 2 refine sw_seq ?_); refine sw_region ?_; (iterate 2 refine so_1 rfl ?_))
    refine so_callE rfl rfl rfl (CFnID_S her hr32 hrn) ?_
    (refine so_nil ?_; refine sn_then ?_)
    cases hall : e.refs.all fun x => hasM x w0 with
    | true =>
      rw [hall] at hr
      (refine sw_cond_f rfl ?_; refine sw_skip ?_; refine sn_then ?_; refine sw_seq ?_; refine sw_region ?_; refine so_1 rfl ?_; refine so_nil ?_; refine sn_then ?_; refine sw_ret ?_)
      refine sn_ret rfl (.tmp rfl .nil) (ent_keep 2 [] rfl rfl) ?_
      rw [hr]; exact ⟨rfl, rfl⟩
    | false =>
      rw [hall] at hr
      (refine sw_cond_t rfl ?_; refine sw_seq ?_; refine sw_region ?_; refine so_1 rfl ?_; refine so_nil ?_; refine sn_then ?_; refine sw_ret ?_; refine sn_then_ret ?_)
      refine sn_ret rfl (.tmp rfl .nil) (ent_keep 2 [] rfl rfl) ?_
      rw [hr]; exact ⟨rfl, rfl⟩
end
end Go.Proofs.YtaglpaoipdmboaaGreat
/- Which events may be: the program's Check, Needs. Conditions: not too many. -/
namespace Go.Proofs.YtaglpaoipdmboaaGreat
open Go Go.Eng Go.RowKit

section
variable {b : World} {F : List SP} {e : Ev}
theorem ways (b : World) (h32 : e.id.length = 32) (hk : 1 ≤ e.kind ∧ e.kind ≤ 4) (w : Int) : ∃ ft fi : Nat, Bodied Tryz.prog ft ∧ Bodied Tryz.prog fi ∧ ((kindsC.drop ((e.kind - 1).toNat * 3)).take 3 = [fnV ft, fnV fi, .bool (decide (e.kind = 1 ∨ e.kind = 3))]) ∧
    (∀ G, SC Tryz.prog ft [.string e.tag] b G (fun v F' => v = .int .i64 (tagE e) ∧ F' = G)) ∧ (∀ G, SC Tryz.prog fi [idV e.id, .int .i64 w] b G (fun v F' => v = .int .i64 (idE e w) ∧ F' = G)) := by
  have : e.kind = 1 ∨ e.kind = 2 ∨ e.kind = 3 ∨ e.kind = 4 := by omega
  rcases this with h | h | h | h
  · refine ⟨n_event_plain, n_event_given, inferInstance, inferInstance, by rw [h]; rfl, fun G => ?_, fun G => ?_⟩
    · have e1 : tagE e = if e.tag.size = 0 then 0 else 2 := by unfold tagE; rw [if_neg (by omega)]
      rw [e1]; exact eplain_S
    · have e1 : idE e w = if hasM e.id w = true then 0 else 8 := by unfold idE; rw [if_neg (by omega)]
      rw [e1]; exact egiven_S h32
  · refine ⟨n_event_plain, n_event_given, inferInstance, inferInstance, by rw [h]; rfl, fun G => ?_, fun G => ?_⟩
    · have e1 : tagE e = if e.tag.size = 0 then 0 else 2 := by unfold tagE; rw [if_neg (by omega)]
      rw [e1]; exact eplain_S
    · have e1 : idE e w = if hasM e.id w = true then 0 else 8 := by unfold idE; rw [if_neg (by omega)]
      rw [e1]; exact egiven_S h32
  · refine ⟨n_event_tagged, n_event_given, inferInstance, inferInstance, by rw [h]; rfl, fun G => ?_, fun G => ?_⟩
    · have e1 : tagE e = if tagF (strI e.tag) = (0, 0) then 0 else 7 := by unfold tagE; rw [if_pos (by omega)]
      rw [e1]; exact etagged_S
    · have e1 : idE e w = if hasM e.id w = true then 0 else 8 := by unfold idE; rw [if_neg (by omega)]
      rw [e1]; exact egiven_S h32
  · refine ⟨n_event_tagged, n_event_none, inferInstance, inferInstance, by rw [h]; rfl, fun G => ?_, fun G => ?_⟩
    · have e1 : tagE e = if tagF (strI e.tag) = (0, 0) then 0 else 7 := by unfold tagE; rw [if_pos (by omega)]
      rw [e1]; exact etagged_S
    · have e1 : idE e w = if e.id = List.replicate 32 0 then 0 else 8 := by unfold idE; rw [if_pos h]
      rw [e1]; exact enone_S h32
set_option maxRecDepth 20000 in
set_option maxHeartbeats 2000000 in
theorem Check_S {n w0 : Int} (he : ∀ w, Sat b F w → ER w e) (hw : EW e) (hl : EvL e) : SC Tryz.prog n_event_Check [evV e, .int .i64 n, .int .i64 w0] b F (fun v F' => v = .int .i64 (chkE e n w0) ∧ F' = F) := by
  have h32 := hw.l32
  have d3 := hw.kind
  unfold I64 at d3
  have her : ∀ g3 w, Sat b (pt g3 t_api_Event (evC e) :: F) w → ER w e := fun g3 => up he (ent_keep 1 [] rfl rfl)
  refine enterS F_event_Check rfl rfl rfl ?_
  refine sw_fact (fun w H => er_form (he w H)) ?_
  rintro ⟨o1, o2⟩
  have xl := evC_len h32
  have x1 := evC_one o1 o2
  (refine sw_seq ?_; refine sw_region ?_)
  refine so_box rfl rfl rfl rfl rfl fun g3 => ?_
  (refine so_1 rfl ?_; refine so_nil ?_; refine sn_then ?_; refine sw_seq ?_; refine sw_block ?_; refine sw_seq ?_; refine sw_region ?_; (iterate 3 refine so_1 rfl ?_))
  by_cases k1 : n < 1
  · have hr : chkE e n w0 = 3 := by unfold chkE; rw [if_pos (by omega)]
    refine so_know 13 (.bool true) rfl (congrArg Value.bool (decide_eq_true k1)) ?_
    ((iterate 12 refine so_1 rfl ?_); refine so_nil ?_; refine sn_then ?_; refine sw_cond_t rfl ?_; refine sw_seq ?_; refine sw_region ?_; refine so_1 rfl ?_; refine so_nil ?_; refine sn_then ?_; refine sw_ret ?_; refine sn_block_ret ?_; refine sn_then_ret ?_)
    refine sn_ret rfl (.tmp rfl .nil) (ent_keep 1 [] rfl rfl) ?_
    rw [hr]; exact ⟨rfl, rfl⟩
  refine so_know 13 (.bool false) rfl (congrArg Value.bool (decide_eq_false k1)) ?_
  ((iterate 4 refine so_1 rfl ?_))
  by_cases k2 : 16 < n
  · have hr : chkE e n w0 = 3 := by unfold chkE; rw [if_pos (by omega)]
    refine so_know 17 (.bool true) rfl (congrArg Value.bool (decide_eq_true k2)) ?_
    ((iterate 8 refine so_1 rfl ?_); refine so_nil ?_; refine sn_then ?_; refine sw_cond_t rfl ?_; refine sw_seq ?_; refine sw_region ?_; refine so_1 rfl ?_; refine so_nil ?_; refine sn_then ?_; refine sw_ret ?_; refine sn_block_ret ?_; refine sn_then_ret ?_)
    refine sn_ret rfl (.tmp rfl .nil) (ent_keep 1 [] rfl rfl) ?_
    rw [hr]; exact ⟨rfl, rfl⟩
  refine so_know 17 (.bool false) rfl (congrArg Value.bool (decide_eq_false k2)) ?_
  ((iterate 4 refine so_1 rfl ?_))
  by_cases k3 : w0 < 1
  · have hr : chkE e n w0 = 3 := by unfold chkE; rw [if_pos (by omega)]
    refine so_know 21 (.bool true) rfl (congrArg Value.bool (decide_eq_true k3)) ?_
    ((iterate 4 refine so_1 rfl ?_); refine so_nil ?_; refine sn_then ?_; refine sw_cond_t rfl ?_; refine sw_seq ?_; refine sw_region ?_; refine so_1 rfl ?_; refine so_nil ?_; refine sn_then ?_; refine sw_ret ?_; refine sn_block_ret ?_; refine sn_then_ret ?_)
    refine sn_ret rfl (.tmp rfl .nil) (ent_keep 1 [] rfl rfl) ?_
    rw [hr]; exact ⟨rfl, rfl⟩
  refine so_know 21 (.bool false) rfl (congrArg Value.bool (decide_eq_false k3)) ?_
  ((iterate 4 refine so_1 rfl ?_); refine so_nil ?_; refine sn_then ?_)
  refine sw_if rfl (fun k4 => ?_) (fun k4 => ?_)
  · have hr : chkE e n w0 = 3 := by unfold chkE; rw [if_pos (by omega)]
    (refine sw_seq ?_; refine sw_region ?_; refine so_1 rfl ?_; refine so_nil ?_; refine sn_then ?_; refine sw_ret ?_; refine sn_block_ret ?_; refine sn_then_ret ?_)
    refine sn_ret rfl (.tmp rfl .nil) (ent_keep 1 [] rfl rfl) ?_
    rw [hr]; exact ⟨rfl, rfl⟩
  have hr : chkE e n w0 = if placedB e n = false then 2 else if e.kind < 1 ∨ 4 < e.kind then 5 else if repoF (strI e.repo) ≠ (0, 0) then 7 else if tagE e ≠ 0 then tagE e else if idE e w0 ≠ 0 then idE e w0 else refsE e (decide (e.kind = 1 ∨ e.kind = 3)) w0 := by
    unfold chkE; rw [if_neg (by omega)]
  (refine sw_seq ?_; refine sw_region ?_)
  refine so_ldA 0 rfl rfl rfl rfl rfl rfl (segO_all (by rw [xl]; rfl)) rfl ?_
  (refine so_1 rfl ?_)
  refine so_callE rfl rfl rfl (eplaced_S (her g3) hw.dot hl.dn) ?_
  ((iterate 2 refine so_1 rfl ?_); refine so_nil ?_; refine sn_then ?_)
  cases hp : placedB e n with
  | false =>
    rw [if_pos hp] at hr
    (refine sw_cond_t rfl ?_; refine sw_seq ?_; refine sw_region ?_; refine so_1 rfl ?_; refine so_nil ?_; refine sn_then ?_; refine sw_ret ?_; refine sn_block_ret ?_; refine sn_then_ret ?_)
    refine sn_ret rfl (.tmp rfl .nil) (ent_keep 1 [] rfl rfl) ?_
    rw [hr]; exact ⟨rfl, rfl⟩
  | true =>
    rw [if_neg (by rw [hp]; simp)] at hr
    (refine sw_cond_f rfl ?_; refine sw_seq ?_; refine sw_region ?_; refine so_1 rfl ?_; refine so_l 0 rfl rfl rfl ?_; (iterate 2 refine so_1 rfl ?_))
    by_cases k5 : e.kind < 1
    · rw [if_pos (.inl k5)] at hr
      refine so_know 34 (.bool true) rfl (congrArg Value.bool (decide_eq_true k5)) ?_
      ((iterate 5 refine so_1 rfl ?_); refine so_nil ?_; refine sn_then ?_; refine sw_cond_t rfl ?_; refine sw_seq ?_; refine sw_region ?_; refine so_1 rfl ?_; refine so_nil ?_; refine sn_then ?_; refine sw_ret ?_; refine sn_block_ret ?_; refine sn_then_ret ?_)
      refine sn_ret rfl (.tmp rfl .nil) (ent_keep 1 [] rfl rfl) ?_
      rw [hr]; exact ⟨rfl, rfl⟩
    refine so_know 34 (.bool false) rfl (congrArg Value.bool (decide_eq_false k5)) ?_
    (refine so_1 rfl ?_; refine so_l 0 rfl rfl rfl ?_; (iterate 3 refine so_1 rfl ?_); refine so_nil ?_; refine sn_then ?_)
    refine sw_if rfl (fun k6 => ?_) (fun k6 => ?_)
    · rw [if_pos (.inr k6)] at hr
      (refine sw_seq ?_; refine sw_region ?_; refine so_1 rfl ?_; refine so_nil ?_; refine sn_then ?_; refine sw_ret ?_; refine sn_block_ret ?_; refine sn_then_ret ?_)
      refine sn_ret rfl (.tmp rfl .nil) (ent_keep 1 [] rfl rfl) ?_
      rw [hr]; exact ⟨rfl, rfl⟩
    rw [if_neg (by omega)] at hr
    (refine sw_seq ?_; refine sw_region ?_; refine so_1 rfl ?_; refine so_l 0 rfl rfl rfl ?_)
    refine so_callE rfl rfl rfl (Repo_S) ?_
    (refine so_1 rfl ?_)
    refine so_pu rfl (pu_neA rfl rfl (eq_fault (repoF (strI e.repo)).1 (repoF (strI e.repo)).2 0 0)) rfl ?_
    by_cases k7 : repoF (strI e.repo) ≠ (0, 0)
    · rw [if_pos k7] at hr
      refine so_know 44 (.bool true) rfl (by
        have : ¬ ((repoF (strI e.repo)).1 = 0 ∧ (repoF (strI e.repo)).2 = 0) := fun hc => k7 (Prod.ext hc.1 hc.2)
        rw [decide_eq_false this]; rfl) ?_
      (refine so_1 rfl ?_; refine so_nil ?_; refine sn_then ?_; refine sw_cond_t rfl ?_; refine sw_seq ?_; refine sw_region ?_; refine so_1 rfl ?_; refine so_nil ?_; refine sn_then ?_; refine sw_ret ?_; refine sn_block_ret ?_; refine sn_then_ret ?_)
      refine sn_ret rfl (.tmp rfl .nil) (ent_keep 1 [] rfl rfl) ?_
      rw [hr]; exact ⟨rfl, rfl⟩
    rw [if_neg k7] at hr
    have k7' : repoF (strI e.repo) = (0, 0) := Decidable.byContradiction k7
    refine so_know 44 (.bool false) rfl (by rw [k7']; rfl) ?_
    obtain ⟨ft, fi, _, _, hway, hft, hfi⟩ := ways b h32 (by omega : 1 ≤ e.kind ∧ e.kind ≤ 4) w0
    (refine so_1 rfl ?_; refine so_nil ?_; refine sn_then ?_; refine sw_cond_f rfl ?_; refine sw_skip ?_; refine sn_block ?_; refine sn_then ?_; refine sw_seq ?_)
    refine sw_float (fl := flo) 5 7 (pt g3 t_api_Event (evC e) :: F) (by decide +kernel) rfl rfl rfl rfl (Ent.refl _) ?_
    skip
    refine sv_callE rfl rfl rfl rfl rfl rfl rfl (fun A => kinds_S) (Ent.refl _) ?_
    (refine sv_1 rfl rfl rfl rfl (.inl rfl) ?_; refine sv_l 0 rfl rfl rfl rfl rfl rfl rfl ?_; refine sv_2 rfl rfl rfl rfl rfl (by (unfold I64; omega)) ?_)
    refine sv_pu rfl rfl rfl rfl (pu_ixA rfl rfl rfl rfl rfl ⟨by omega, by show _ < (4 : Int); omega⟩ hway) rfl rfl ?_
    (refine sv_at ?_)
    refine sv_join rfl (by decide +kernel) rfl fun g7 => ⟨ent_keep 1 [] rfl rfl, ?_⟩
    refine sd_stW 0 rfl rfl rfl rfl rfl rfl rfl rfl rfl (by simp [Value.oneCell']) rfl (ent_keep 1 [] rfl rfl) ?_
    refine sd_nil ?_
    have her7 : ∀ w, Sat b (pt g7 t_event_what [fnV ft, fnV fi, .bool (decide (e.kind = 1 ∨ e.kind = 3))] :: pt g3 t_api_Event (evC e) :: F) w → ER w e := up he (ent_keep 2 [] rfl rfl)
    (refine sn_then ?_; (iterate 2 refine sw_seq ?_))
    refine sw_draw flo _ (by decide +kernel) (Ent.refl _) ?_
    (refine sd_1 rfl (.inl rfl) ?_; refine sd_l 0 rfl rfl rfl rfl ?_; refine sd_1 rfl (.inl rfl) ?_; refine sd_l 1 rfl rfl rfl rfl ?_)
    refine sd_callE rfl rfl rfl rfl ((hft _)) (Ent.refl _) ?_
    (refine sd_1 rfl (.inl rfl) ?_; refine sd_l 0 rfl rfl rfl rfl ?_; refine sd_1 rfl (.inl rfl) ?_)
    refine sd_ldA 1 rfl rfl rfl rfl rfl rfl (evC_id h32) rfl rfl ?_
    (refine sd_1 rfl (.inl rfl) ?_)
    refine sd_callE rfl rfl rfl rfl ((hfi _)) (Ent.refl _) ?_
    refine sd_ldA 1 rfl rfl rfl rfl rfl rfl (segO_all (by rw [xl]; rfl)) rfl rfl ?_
    (refine sd_1 rfl (.inl rfl) ?_; refine sd_l 0 rfl rfl rfl rfl ?_; refine sd_1 rfl (.inl rfl) ?_)
    refine sd_callE rfl rfl rfl rfl ((erefs_S her7 hw hl)) (Ent.refl _) ?_
    generalize refsE e (decide (e.kind = 1 ∨ e.kind = 3)) w0 = x3 at hr ⊢
    generalize tagE e = x1' at hr ⊢
    generalize idE e w0 = x2 at hr ⊢
    ((iterate 2 refine sd_1 rfl (.inl rfl) ?_))
    refine sd_nil ?_
    (refine sn_then ?_; refine sw_block ?_)
    refine sw_loop (S := Nat) (fun i => [(66, .agg ⟨[.int .i64 x1', .int .i64 x2, .int .i64 x3]⟩), (67, .int .i64 (i : Int))]) (fun _ => F) (fun i => i ≤ 3 ∧ (1 ≤ i → x1' = 0) ∧ (2 ≤ i → x2 = 0) ∧ (3 ≤ i → x3 = 0)) (fun i => 3 - i) 0 ⟨rfl, rfl, trivial⟩ (ent_keep 2 [] rfl rfl) ⟨by omega, by omega, by omega, by omega⟩ ?_
    rintro i ⟨hi, j1, j2, j3⟩
    (refine sw_seq ?_; refine sw_region ?_; refine so_1 rfl ?_; refine so_nil ?_; refine sn_then ?_; refine sw_seq ?_)
    refine sw_if rfl (fun h => ?_) (fun h => ?_)
    · have h3 : i = 0 ∨ i = 1 ∨ i = 2 := by omega
      rcases h3 with rfl | rfl | rfl
      · (refine sw_skip ?_; refine sn_then ?_; refine sw_seq ?_; refine sw_block ?_; refine sw_seq ?_; refine sw_region ?_; refine so_2 rfl (by (simp; done)) ?_; refine so_1 rfl ?_; refine so_nil ?_; refine sn_then ?_; refine sw_seq ?_; refine sw_region ?_; (iterate 2 refine so_1 rfl ?_); refine so_nil ?_; refine sn_then ?_)
        refine sw_ifn rfl (fun h5 => ?_) (fun h5 => ?_)
        · rw [if_pos h5] at hr
          (refine sw_seq ?_; refine sw_region ?_; (iterate 2 refine so_1 rfl ?_); refine so_nil ?_; refine sn_then ?_; refine sw_ret ?_; refine sn_block_ret ?_; refine sn_then_ret ?_; refine sn_loop_ret ?_; refine sn_block_ret ?_; refine sn_then_ret ?_)
          refine sn_ret rfl (.tmp rfl .nil) (Ent.refl _) ?_
          rw [hr]; exact ⟨rfl, rfl⟩
        · (refine sw_skip ?_; refine sn_block ?_; refine sn_then ?_; refine sw_region ?_; refine so_2 rfl (by (unfold I64; omega)) ?_; refine so_1 rfl ?_; refine so_nil ?_)
          exact sn_round 1 ⟨rfl, rfl, trivial⟩ (Ent.refl _) ⟨by omega, fun _ => h5, by omega, by omega⟩ (by omega)
      · have := j1 (by omega)
        (refine sw_skip ?_; refine sn_then ?_; refine sw_seq ?_; refine sw_block ?_; refine sw_seq ?_; refine sw_region ?_; refine so_2 rfl (by (simp; done)) ?_; refine so_1 rfl ?_; refine so_nil ?_; refine sn_then ?_; refine sw_seq ?_; refine sw_region ?_; (iterate 2 refine so_1 rfl ?_); refine so_nil ?_; refine sn_then ?_)
        refine sw_ifn rfl (fun h5 => ?_) (fun h5 => ?_)
        · rw [if_neg (by omega), if_pos h5] at hr
          (refine sw_seq ?_; refine sw_region ?_; (iterate 2 refine so_1 rfl ?_); refine so_nil ?_; refine sn_then ?_; refine sw_ret ?_; refine sn_block_ret ?_; refine sn_then_ret ?_; refine sn_loop_ret ?_; refine sn_block_ret ?_; refine sn_then_ret ?_)
          refine sn_ret rfl (.tmp rfl .nil) (Ent.refl _) ?_
          rw [hr]; exact ⟨rfl, rfl⟩
        · (refine sw_skip ?_; refine sn_block ?_; refine sn_then ?_; refine sw_region ?_; refine so_2 rfl (by (unfold I64; omega)) ?_; refine so_1 rfl ?_; refine so_nil ?_)
          exact sn_round 2 ⟨rfl, rfl, trivial⟩ (Ent.refl _) ⟨by omega, fun _ => this, fun _ => h5, by omega⟩ (by omega)
      · have t1 := j1 (by omega)
        have t2 := j2 (by omega)
        rw [if_neg (by omega), if_neg (by omega)] at hr
        (refine sw_skip ?_; refine sn_then ?_; refine sw_seq ?_; refine sw_block ?_; refine sw_seq ?_; refine sw_region ?_; refine so_2 rfl (by (simp; done)) ?_; refine so_1 rfl ?_; refine so_nil ?_; refine sn_then ?_; refine sw_seq ?_; refine sw_region ?_; (iterate 2 refine so_1 rfl ?_); refine so_nil ?_; refine sn_then ?_)
        refine sw_ifn rfl (fun h5 => ?_) (fun h5 => ?_)
        · (refine sw_seq ?_; refine sw_region ?_; (iterate 2 refine so_1 rfl ?_); refine so_nil ?_; refine sn_then ?_; refine sw_ret ?_; refine sn_block_ret ?_; refine sn_then_ret ?_; refine sn_loop_ret ?_; refine sn_block_ret ?_; refine sn_then_ret ?_)
          refine sn_ret rfl (.tmp rfl .nil) (Ent.refl _) ?_
          rw [hr]; exact ⟨rfl, rfl⟩
        · (refine sw_skip ?_; refine sn_block ?_; refine sn_then ?_; refine sw_region ?_; refine so_2 rfl (by (unfold I64; omega)) ?_; refine so_1 rfl ?_; refine so_nil ?_)
          exact sn_round 3 ⟨rfl, rfl, trivial⟩ (Ent.refl _) ⟨by omega, fun _ => t1, fun _ => t2, fun _ => h5⟩ (by omega)
    · obtain rfl : i = 3 := by omega
      rw [if_neg (by rw [j1 (by omega)]; simp), if_neg (by rw [j2 (by omega)]; simp), j3 (by omega)] at hr
      (refine sw_exit ?_; refine sn_then_exit ?_; refine sn_loop_exit ?_; refine sn_block_exit ?_; refine sn_then ?_; refine sw_seq ?_; refine sw_region ?_; refine so_1 rfl ?_; refine so_nil ?_; refine sn_then ?_; refine sw_ret ?_)
      refine sn_ret rfl (.tmp rfl .nil) (Ent.refl _) ?_
      rw [hr]; exact ⟨rfl, rfl⟩
/-- Is another event needed? -/
theorem vHas_S {r n : Int} {v : Value} {xs : List Int} (h : ∀ w, Sat b F w → VL (Value.int .i64) w v xs) : SC Tryz.prog n_vector_Has [v, dotV r n] b F (fun u F' => u = .bool (hasL xs r n) ∧ F' = F) :=
  SC.ofExt fun w H => Has_spec_vector_Has (h w H)
theorem Needs_S {x y : Ev} (hx : ∀ w, Sat b F w → ER w x) : SC Tryz.prog n_event_Needs [evV x, evV y] b F (fun v F' => v = .bool (hasL x.deps y.r y.n) ∧ F' = F) := by
  refine enterS F_event_Needs rfl rfl rfl ?_
  (refine sw_seq ?_; refine sw_region ?_)
  refine so_box rfl rfl rfl rfl rfl fun g2 => ?_
  skip
  refine so_box rfl rfl rfl rfl rfl fun g3 => ?_
  (refine so_1 rfl ?_; refine so_nil ?_; refine sn_then ?_; refine sw_seq ?_; refine sw_region ?_; refine so_1 rfl ?_; refine so_l 1 rfl rfl rfl ?_; refine so_1 rfl ?_; refine so_l 0 rfl rfl rfl ?_)
  refine so_callE rfl rfl rfl (vHas_S (up (fun w H => (hx w H).dv) (ent_keep 2 [] rfl rfl))) ?_
  (refine so_1 rfl ?_; refine so_nil ?_; refine sn_then ?_; refine sw_ret ?_)
  refine sn_ret rfl (.tmp rfl .nil) (ent_keep 2 [] rfl rfl) ?_
  exact ⟨rfl, rfl⟩
end
end Go.Proofs.YtaglpaoipdmboaaGreat
/- Events: the laws' own events. Conditions: none. -/
namespace Go.Proofs.YtaglpaoipdmboaaGreat
open Go Go.Eng Go.RowKit

def sha68 : List Int := cutR (sumM [68]) 32
structure IdG (id : List Int) : Prop where
  ok : idOk id
  h32 : hasM id 32 = true
  h1 : hasM id 1 = false
  nz : id ≠ List.replicate 32 0
theorem sha68_g : IdG sha68 := by
  have h : (cutR (sumM [68]) 32).length = 32 ∧ (cutR (sumM [68]) 32).all (fun x => (Lit.int .u8 x).wf) = true ∧ hasM (cutR (sumM [68]) 32) 32 = true ∧ hasM (cutR (sumM [68]) 32) 1 = false ∧ cutR (sumM [68]) 32 ≠ List.replicate 32 0 := by decide +kernel
  exact ⟨⟨h.1, fun x hx => List.all_eq_true.1 h.2.1 x hx⟩, h.2.2.1, h.2.2.2.1, h.2.2.2.2⟩
theorem cutE32 : cutE 32 = 0 := by decide
/-- The chapter's event. -/
def oneE (id : List Int) : Ev := ⟨1, 3, nS, [2, 5], 1, ⟨#[114]⟩, ⟨#[]⟩, id, nS, [id]⟩
section
variable {b : World} {F : List SP}
set_option maxRecDepth 20000 in
theorem one_S : SC Tryz.prog n_entrepotlaw19_one [] b F (fun v F' => ∃ dv rv, v = evV ((oneE sha68).own dv rv) ∧ F' = rZ dv [2, 5] :: rD rv [sha68] :: F) := by
  have h32 := sha68_g.ok.1
  have hs : cutR (sumM [68]) 32 = sha68 := rfl
  have hOf : ∀ {F' : List SP} {vb : Value}, (∀ w, Sat b F' w → VL (Value.int .u8) w vb [68]) → SC Tryz.prog n_sha_Of [vb, .int .i64 32] b F' (fun v G => v = .tuple ⟨[idV sha68, .int .i64 0]⟩ ∧ G = F') := fun h => by
    have := Of_S (w := 32) (xs := [68]) (by decide) h
    rw [hs, cutE32] at this; exact this
  generalize sha68 = id at h32 hOf ⊢
  refine enterS F_entrepotlaw19_one rfl rfl rfl ?_
  (refine sw_seq ?_; refine sw_region ?_)
  refine so_new rfl rfl rfl rfl rfl fun g0 => ?_
  (refine so_nil ?_; refine sn_then ?_; refine sw_seq ?_; refine sw_region ?_)
  refine so_lit ([68].map (Value.int .u8)) rfl rfl rfl rfl rfl rfl rfl rfl rfl fun gl => ?_
  refine so_mark 0 rfl rfl rfl rfl rfl rfl rfl rfl ?_
  refine so_callE rfl rfl rfl (hOf (fun w H => H.ptz_vl (k := 0) rfl rfl (Nat.le_refl _) (by omega) (fun j hj => rfl))) ?_
  ((iterate 3 refine so_1 rfl ?_))
  refine so_new rfl rfl rfl rfl rfl fun g1 => ?_
  refine so_stW 0 rfl rfl rfl rfl rfl rfl rfl (by rw [u8s_len, h32]; rfl) (u8s_one _) (by simp [h32]) ?_
  (refine so_1 rfl ?_; refine so_nil ?_; refine sn_then ?_; refine sw_seq ?_; refine sw_region ?_; refine so_1 rfl ?_)
  refine so_lit (ints [2, 5]) rfl rfl rfl rfl rfl rfl rfl rfl rfl fun gd => ?_
  refine so_ldA 1 rfl rfl rfl rfl rfl rfl (segID h32) rfl ?_
  refine so_ldA 1 rfl rfl rfl rfl rfl rfl (segID h32) rfl ?_
  refine so_lit1 rfl rfl rfl rfl rfl rfl rfl (by rw [u8s_len, h32]; rfl) (by decide) fun gr => ?_
  refine so_B rfl rfl rfl ⟨rfl, rfl, rfl, rfl, (by show (u8s _).length = _; rw [u8s_len, h32]; rfl), rfl, trivial⟩ ?_
  have yl : (evC ((oneE id).own (.slice (some ⟨gd, 0, none⟩) 2 2) (.slice (some ⟨gr, 0, none⟩) 1 1))).length = 39 := evC_len h32
  have y1 := evC_one (e := (oneE id).own (.slice (some ⟨gd, 0, none⟩) 2 2) (.slice (some ⟨gr, 0, none⟩) 1 1)) rfl rfl
  refine so_know 14 (evV ((oneE id).own (.slice (some ⟨gd, 0, none⟩) 2 2) (.slice (some ⟨gr, 0, none⟩) 1 1))) rfl rfl ?_
  generalize hx : (oneE id).own (.slice (some ⟨gd, 0, none⟩) 2 2) (.slice (some ⟨gr, 0, none⟩) 1 1) = x at yl y1 ⊢
  refine so_stW 4 rfl rfl rfl rfl rfl rfl rfl yl y1 (by rw [yl]; rfl) ?_
  (refine so_nil ?_; refine sn_then ?_; refine sw_ret ?_)
  refine sn_ret rfl (.whole 4 rfl rfl rfl rfl (by rw [yl]; rfl) .nil) ((ent_blk_row (t := t_api_ID) (sz := 32) (n := 1) (v := .slice (some ⟨gr, 0, none⟩) 1 1) rfl (by rw [u8s_len, h32]) (by decide) 0 rfl rfl).trans ((ent_rDi (l := [id]) 0 rfl rfl (by simp [idsC]) rfl).trans ((ent_blk_row (t := t_int) (sz := 1) (n := 2) (v := .slice (some ⟨gd, 0, none⟩) 2 2) rfl rfl (by decide) 1 rfl rfl).trans (ent_keep 5 [1, 0] rfl rfl)))) ?_
  exact ⟨.slice (some ⟨gd, 0, none⟩) 2 2, .slice (some ⟨gr, 0, none⟩) 1 1, by rw [hx]; rfl, rfl⟩
/-- An event of a dot, with Deps. -/
def atE (r n : Int) (dv : Value) (deps : List Int) : Ev := ⟨r, n, dv, deps, 0, ⟨#[]⟩, ⟨#[]⟩, List.replicate 32 0, nS, []⟩
theorem at_S {r n : Int} {A : Option Addr} {k c : Nat} {deps : List Int} : SC Tryz.prog n_entrepotlaw19_at [.int .i64 r, .int .i64 n, .slice A k c] b F (fun v F' => v = evV (atE r n (.slice A k c) deps) ∧ F' = F) := by
  refine enterS F_entrepotlaw19_at rfl rfl rfl ?_
  (refine sw_seq ?_; refine sw_region ?_)
  refine so_new rfl rfl rfl rfl rfl fun g6 => ?_
  (refine so_nil ?_; refine sn_then ?_; refine sw_seq ?_; refine sw_region ?_; (iterate 5 refine so_1 rfl ?_); refine so_s1 0 rfl rfl rfl rfl ?_; refine so_nil ?_; refine sn_then ?_; refine sw_ret ?_)
  refine sn_ret rfl (.whole 0 rfl rfl rfl rfl rfl .nil) (ent_keep 1 [] rfl rfl) ?_
  exact ⟨rfl, rfl⟩
end
theorem repo_r : repoF (strI ⟨#[114]⟩) = (0, 0) := by decide
theorem chk_one {id : List Int} (h : hasM id 32 = true) : chkE (oneE id) 2 32 = 0 := by
  have e1 : placedB (oneE id) 2 = true := rfl
  have e2 : repoF (strI (oneE id).repo) = (0, 0) := repo_r
  have e3 : tagE (oneE id) = 0 := rfl
  have e4 : idE (oneE id) 32 = 0 := by
    show (if (1 : Int) = 4 then _ else if hasM id 32 = true then (0 : Int) else 8) = 0
    rw [h]; rfl
  have e5 : refsE (oneE id) true 32 = 0 := by
    unfold refsE
    rw [if_neg (by simp), if_neg (by simp [oneE, riseB]), if_pos (by simp [oneE, h])]
  unfold chkE
  rw [if_neg (by decide), if_neg (by rw [e1]; simp), if_neg (by simp [oneE]), if_neg (by rw [e2]; simp), if_neg (by rw [e3]; simp), if_neg (by rw [e4]; simp)]
  exact e5
theorem one_ew {id : List Int} (h : idOk id) (dv rv : Value) : EW ((oneE id).own dv rv) :=
  ⟨h, ⟨by show (Lit.int .i64 1).wf = true; decide, by show (Lit.int .i64 3).wf = true; decide⟩, fun x hx => by rw [List.mem_singleton.1 hx]; exact h, ⟨by show (_ : Int) ≤ 1; decide, by show (1 : Int) ≤ _; decide⟩, fun x hx => by
    have : x = 2 ∨ x = 5 := by simpa [oneE, Ev.own] using hx
    rcases this with rfl | rfl <;> exact ⟨by decide, by decide⟩, by show (1 : Nat) ≤ _; decide, by show (0 : Nat) ≤ _; decide⟩
theorem one_l (id : List Int) (dv rv : Value) : EvL ((oneE id).own dv rv) := ⟨by simp [oneE, Ev.own], by simp [oneE, Ev.own], by show (1 : Nat) ≤ _; decide, by show (0 : Nat) ≤ _; decide⟩
theorem one_n {id : List Int} (h : idOk id) : EvN (oneE id) := ⟨by show (1 : Int) < _; decide, by show (3 : Int) < _; decide, by show (1 : Int) < _; decide, fun x hx => by
    have : x = 2 ∨ x = 5 := by simpa [oneE] using hx
    rcases this with rfl | rfl <;> decide, h.1, fun x hx => by rw [List.mem_singleton.1 hx]; exact h.1⟩
theorem one_enc {id : List Int} (h : IdG id) : (encE (oneE id)).2 = 0 ∧ decE (encE (oneE id)).1 = (nE (oneE id), 0, 0) ∧ (encE (oneE id)).1.length ≤ 8600 := by
  obtain ⟨h1, h2, h3⟩ := chk_enc (chk_one h.h32) (one_n h.ok)
  refine ⟨h1, ?_, by rw [h2]; exact h3⟩
  rw [h2]
  exact dec_enc (one_n h.ok) h1 (by show (2 : Nat) ≤ _; decide) (by show (strI ⟨#[114]⟩).length ≤ _; decide) (by show (strI ⟨#[]⟩).length ≤ _; decide)
theorem enc_bytes {e : Ev} (h : EW e) : byteOk (encE e).1 := by
  by_cases he : (encE e).2 = 0
  · rw [(encE_ok he).2.1]
    have hid : ∀ x : List Int, idOk x → byteOk x := fun x hx => fun y hy => by
      have := hx.2 y hy
      simp [Lit.wf, IntKind.min, IntKind.max, IntKind.signed, IntKind.bits] at this
      omega
    have hst : ∀ s : ByteArray, byteOk (strI s) := fun s y hy => by
      simp only [strI, List.mem_map] at hy
      obtain ⟨z, _, rfl⟩ := hy
      have := z.toNat_lt; omega
    have hfl : ∀ l : List Int, byteOk (l.map numB).flatten := fun l => by
      induction l with
      | nil => exact .nil
      | cons x l ih => simp only [List.map_cons, List.flatten_cons]; exact (numB_ok x).app ih
    have hfr : ∀ l : List (List Int), (∀ x ∈ l, idOk x) → byteOk l.flatten := fun l => by
      induction l with
      | nil => exact fun _ => .nil
      | cons x l ih => intro hl; simp only [List.flatten_cons]; exact (hid x (hl x List.mem_cons_self)).app (ih fun y hy => hl y (List.mem_cons_of_mem _ hy))
    unfold encB
    exact ((numB_ok _).app (numB_ok _)).app (((numB_ok _).app (hfl _)).app ((numB_ok _).app (((numB_ok _).app (hst _)).app (((numB_ok _).app (hst _)).app ((hid _ h.id).app ((numB_ok _).app (hfr _ h.rf)))))))
  · rw [encE_bad he]; exact .nil
end Go.Proofs.YtaglpaoipdmboaaGreat
/- Events: some of the chapter's examples (awake). Conditions: none. -/
namespace Go.Proofs.YtaglpaoipdmboaaGreat
open Go Go.Eng Go.RowKit

theorem chk_own (e : Ev) (dv rv : Value) (n w : Int) : chkE (e.own dv rv) n w = chkE e n w := rfl
def fiveE (id : List Int) : Ev := ⟨1, 3, nS, [2, 5], 5, ⟨#[114]⟩, ⟨#[]⟩, id, nS, [id]⟩
theorem five_ew {id : List Int} (h : idOk id) (dv rv : Value) : EW ((fiveE id).own dv rv) :=
  have k := one_ew h dv rv
  ⟨h, k.dot, k.rf, ⟨by show (_ : Int) ≤ 5; decide, by show (5 : Int) ≤ _; decide⟩, k.dp, k.rs, k.ts⟩
theorem five_l (id : List Int) (dv rv : Value) : EvL ((fiveE id).own dv rv) := ⟨(one_l id dv rv).dn, (one_l id dv rv).rn, (one_l id dv rv).ps, (one_l id dv rv).ts⟩
theorem nil_sl32 (w : World) : SL w 32 nS 0 [] := ⟨none, 0, rfl, rfl, Nat.le_refl _, by decide, fun _ => rfl, fun h => absurd h (by decide)⟩
theorem chk_five (id : List Int) : chkE (fiveE id) 2 32 = 5 := by
  have e1 : placedB (fiveE id) 2 = true := rfl
  unfold chkE
  rw [if_neg (by decide), if_neg (by rw [e1]; simp), if_pos (.inr (show (4 : Int) < 5 by decide))]
section
variable {b : World} {F : List SP}
theorem er_rows {e : Ev} {dv rv : Value} {j k : Nat} (hj : nth F j = some (rZ dv e.deps)) (hk : nth F k = some (rD rv e.refs)) : ∀ w, Sat b F w → ER w (e.own dv rv) := fun w H =>
  ⟨show VL (Value.int .i64) w dv e.deps from (H.oat hj).sl, show SL w 32 rv e.refs.length (idsC e.refs) from (H.oat hk).sl⟩
set_option maxRecDepth 20000 in
set_option maxHeartbeats 4000000 in
theorem awake_S : SC Tryz.prog n_entrepotlaw19_awake [] b F (fun v F' => v = .bool true ∧ F' = F) := by
  have hg := sha68_g
  have hone : ∀ {F' : List SP}, SC Tryz.prog n_entrepotlaw19_one [] b F' (fun v G => ∃ dv rv, v = evV ((oneE sha68).own dv rv) ∧ G = rZ dv [2, 5] :: rD rv [sha68] :: F') := one_S
  generalize sha68 = id at hg hone
  have hok := hg.ok
  have h32 := hok.1
  have hr32 : len32 [id] := fun x hx => by rw [List.mem_singleton.1 hx]; exact h32
  obtain ⟨he0, hdec, hlen⟩ := one_enc hg
  refine enterS F_entrepotlaw19_awake rfl rfl rfl ?_
  (refine sw_seq ?_; refine sw_region ?_; refine so_1 rfl ?_; refine so_nil ?_; refine sn_then ?_; refine sw_seq ?_; refine sw_region ?_)
  refine so_call rfl rfl rfl (hone) ?_
  rintro _ _ ⟨dv1, rv1, rfl, rfl⟩
  refine so_fact (fun w H => er_form (er_rows (e := oneE id) (j := 0) (k := 1) rfl rfl w H)) ?_
  rintro ⟨o1, o2⟩
  have xl : (evC ((oneE id).own dv1 rv1)).length = 39 := evC_len h32
  have x1 := evC_one o1 o2
  refine so_new rfl rfl rfl rfl rfl fun g1 => ?_
  refine so_stW 0 rfl rfl rfl rfl rfl rfl rfl xl x1 (by rw [xl]; rfl) ?_
  (refine so_nil ?_; refine sn_then ?_; refine sw_seq ?_; refine sw_region ?_)
  refine so_ldA 0 rfl rfl rfl rfl rfl rfl (segO_all (by rw [xl]; rfl)) rfl ?_
  refine so_call rfl rfl rfl (Encode_S (er_rows (e := oneE id) (j := 1) (k := 2) rfl rfl) (one_ew hok _ _) (one_l id _ _)) ?_
  rintro _ _ ⟨rb, rfl, rfl⟩
  have hE : encE ((oneE id).own dv1 rv1) = encE (oneE id) := rfl
  have hbb := enc_bytes (one_ew hok nS nS)
  have hE2 : encE ((oneE id).own nS nS) = encE (oneE id) := rfl
  rw [hE2] at hbb
  rw [hE, he0]
  generalize (encE (oneE id)).1 = B at hdec hlen hbb ⊢
  ((iterate 5 refine so_1 rfl ?_); refine so_nil ?_; refine sn_then ?_; refine sw_seq ?_; refine sw_region ?_; refine so_1 rfl ?_)
  refine so_call rfl rfl rfl (Decode_S (vlB (l := B) (k := 0) rfl) (by omega) hbb) ?_
  rintro _ _ ⟨dv2, rv2, rfl, rfl⟩
  rw [hdec]
  have hy : (nE (oneE id)).own dv2 rv2 = (oneE id).own dv2 rv2 := rfl
  dsimp only
  rw [hy]
  refine so_fact (fun w H => er_form (er_rows (e := oneE id) (j := 0) (k := 1) rfl rfl w H)) ?_
  rintro ⟨o3, o4⟩
  have yl : (evC ((oneE id).own dv2 rv2)).length = 39 := evC_len h32
  have y1 := evC_one o3 o4
  ((iterate 3 refine so_1 rfl ?_))
  refine so_new rfl rfl rfl rfl rfl fun g4 => ?_
  refine so_new rfl rfl rfl rfl rfl fun g5 => ?_
  refine so_stW 1 rfl rfl rfl rfl rfl rfl rfl yl y1 (by rw [yl]; rfl) ?_
  (refine so_s1 0 rfl rfl rfl rfl ?_; refine so_nil ?_; refine sn_then ?_; refine sw_seq ?_; refine sw_region ?_; refine so_1 rfl ?_; refine so_s1 5 rfl rfl rfl rfl ?_; refine so_nil ?_; refine sn_then ?_; refine sw_seq ?_)
  have zl : (evC ((fiveE id).own dv1 rv1)).length = 39 := evC_len h32
  refine sw_ent (G := pt g5 t_api_Fault [.int .i64 0, .int .i64 0] :: pt g4 t_api_Event (evC ((oneE id).own dv2 rv2)) :: rZ dv2 [2, 5] :: rD rv2 [id] :: rB rb B :: pt g1 t_api_Event (evC ((fiveE id).own dv1 rv1)) :: rZ dv1 [2, 5] :: rD rv1 [id] :: F) (Ent.refl _) ?_
  refine sw_tree flo (OT.pre (List.range' 0 28) (.two 28 [] 29 (OT.pre (List.range' 30 4) .nil))) (pt g5 t_api_Fault [.int .i64 0, .int .i64 0] :: pt g4 t_api_Event (evC ((oneE id).own dv2 rv2)) :: rZ dv2 [2, 5] :: rD rv2 [id] :: rB rb B :: pt g1 t_api_Event (evC ((fiveE id).own dv1 rv1)) :: rZ dv1 [2, 5] :: rD rv1 [id] :: F) (by decide +kernel) (Ent.refl _) ?_
  refine st_ops 0 28 _ rfl rfl ?_
  refine sd_call rfl rfl rfl rfl hone ?_
  rintro _ _ ⟨dva, rva, rfl, rfl⟩
  refine ⟨ent_keep 2 [] rfl rfl, ?_⟩
  refine sd_callE rfl rfl rfl rfl ((Check_S (er_rows (e := oneE id) (j := 0) (k := 1) rfl rfl) (one_ew hok _ _) (one_l id _ _))) (ent_keep 2 [] rfl rfl) ?_
  rw [chk_own, chk_one hg.h32]
  ((iterate 2 refine sd_1 rfl (.inl rfl) ?_))
  refine sd_ldA 5 rfl rfl rfl rfl rfl rfl (segO_all (by rw [zl]; rfl)) rfl rfl ?_
  refine sd_callE rfl rfl rfl rfl ((Check_S (er_rows (e := fiveE id) (j := 8) (k := 9) rfl rfl) (five_ew hok _ _) (five_l id _ _))) (ent_keep 2 [] rfl rfl) ?_
  rw [chk_own, chk_five]
  ((iterate 7 refine sd_1 rfl (.inl rfl) ?_); refine sd_l 0 rfl rfl rfl rfl ?_; refine sd_1 rfl (.inl rfl) ?_)
  refine sd_pu rfl (pu_eqA rfl rfl (eq_fault 0 0 0 0)) rfl rfl ?_
  ((iterate 2 refine sd_1 rfl (.inl rfl) ?_))
  refine sd_ldA 1 rfl rfl rfl rfl rfl rfl (segO_all (by rw [yl]; rfl)) rfl rfl ?_
  refine sd_call rfl rfl rfl rfl hone ?_
  rintro _ _ ⟨dvb, rvb, rfl, rfl⟩
  refine ⟨ent_keep 4 [] rfl rfl, ?_⟩
  refine sd_callE rfl rfl rfl rfl ((SameEvent_S (e := (oneE id).own dv2 rv2) (f := (oneE id).own dvb rvb) rfl (er_rows (e := oneE id) (j := 6) (k := 7) rfl rfl) (er_rows (e := oneE id) (j := 0) (k := 1) rfl rfl) h32 hr32 (by show (1 : Nat) ≤ _; decide))) (ent_keep 4 [] rfl rfl) ?_
  ((iterate 2 refine sd_1 rfl (.inl rfl) ?_))
  refine sd_call rfl rfl rfl rfl hone ?_
  rintro _ _ ⟨dvc, rvc, rfl, rfl⟩
  refine ⟨ent_keep 6 [] rfl rfl, ?_⟩
  refine sd_callE rfl rfl rfl rfl ((at_S (deps := []))) (ent_keep 6 [] rfl rfl) ?_
  refine sd_callE rfl rfl rfl rfl ((Needs_S (y := atE 2 5 (.slice none 0 0) []) (er_rows (e := oneE id) (j := 0) (k := 1) rfl rfl))) (ent_keep 6 [] rfl rfl) ?_
  refine sd_know 43 (.bool true) rfl rfl ?_
  ((iterate 2 refine sd_1 rfl (.inl rfl) ?_))
  refine sd_nil (sn_tree (ent_keep 6 [] rfl rfl) ?_)
  refine st_twoJ (S' := Value × Value × Nat) (fun s => [(45, .bool true), (46, evV ((oneE id).own s.1 s.2.1)), (47, .slice (some ⟨s.2.2, 0, none⟩) 2 2)])
    (fun s => pt s.2.2 t_int (ints [3, 5]) :: rZ s.1 [2, 5] :: rD s.2.1 [id] :: (pt g5 t_api_Fault [.int .i64 0, .int .i64 0] :: pt g4 t_api_Event (evC ((oneE id).own dv2 rv2)) :: rZ dv2 [2, 5] :: rD rv2 [id] :: rB rb B :: pt g1 t_api_Event (evC ((fiveE id).own dv1 rv1)) :: rZ dv1 [2, 5] :: rD rv1 [id] :: F)) (fun _ => True) (fun s _ => ent_keep 3 [] rfl rfl) (fun J => ?_) (fun J => ?_) ?_
  · refine st_ops 28 2 _ rfl rfl ?_
    refine sd_call rfl rfl rfl rfl hone ?_
    rintro _ _ ⟨dvd, rvd, rfl, rfl⟩
    refine ⟨ent_keep 8 [] rfl rfl, ?_⟩
    refine sd_lit [.int .i64 3, .int .i64 5] rfl rfl rfl rfl rfl rfl rfl rfl rfl rfl (ent_keep 8 [] rfl rfl) fun gl => ?_
    exact sd_nil (J (dvd, rvd, gl) _ _ trivial ⟨rfl, rfl, rfl, trivial⟩ (ent_keep 9 [0, 1, 2] rfl rfl))
  · refine st_ops 29 1 _ rfl rfl ?_
    refine sd_lit [.int .i64 3, .int .i64 5] rfl rfl rfl rfl rfl rfl rfl rfl rfl rfl (ent_keep 6 [] rfl rfl) fun gl => ?_
    refine sd_nil (sn_tree (ent_keep 7 [] rfl rfl) ?_)
    refine st_ops 28 1 _ rfl rfl ?_
    refine sd_call rfl rfl rfl rfl hone ?_
    rintro _ _ ⟨dvd, rvd, rfl, rfl⟩
    refine ⟨ent_keep 9 [] rfl rfl, ?_⟩
    exact sd_nil (J (dvd, rvd, gl) _ _ trivial ⟨rfl, rfl, rfl, trivial⟩ (ent_keep 9 [2, 0, 1] rfl rfl))
  rintro ⟨dvd, rvd, gl⟩ _
  refine st_ops 30 4 _ rfl rfl ?_
  refine sd_callE rfl rfl rfl rfl ((at_S (deps := [3, 5]))) (ent_keep 3 [] rfl rfl) ?_
  refine sd_callE rfl rfl rfl rfl ((eLess_S (er_rows (e := oneE id) (j := 1) (k := 2) rfl rfl) (y := atE 1 4 (.slice (some ⟨gl, 0, none⟩) 2 2) [3, 5]) (fun w H => ⟨(H.blk (k := 0) rfl).sl rfl (by decide), nil_sl32 w⟩))) (ent_keep 3 [] rfl rfl) ?_
  refine sd_know 49 (.bool true) rfl rfl ?_
  ((iterate 2 refine sd_1 rfl (.inl rfl) ?_))
  refine sd_nil (sn_last ?_)
  (refine sn_then ?_; refine sw_ret ?_)
  refine sn_ret rfl (.tmp rfl .nil) (ent_keep 11 [] rfl rfl) ?_
  exact ⟨rfl, rfl⟩
end
end Go.Proofs.YtaglpaoipdmboaaGreat
/- Events: the kit on lists of events; in which order events stand. Conditions: not too many. -/
namespace Go.Proofs.YtaglpaoipdmboaaGreat
open Go Go.Eng Go.RowKit

section
variable {b : World} {F : List SP} {l : List Ev} {v : Value}
set_option maxRecDepth 20000 in
set_option maxHeartbeats 2000000 in
theorem CopyEvents_S (hl : ∀ w, Sat b F w → EL w v l) (hk : ∀ e ∈ l, EvM e) (hn : l.length ≤ 100000) :
    SC Tryz.prog n_entrepotkit_CopyEvents [v] b F (fun u F' => ∃ D, D.map nE = l.map nE ∧ F' = rEs u D :: all (evF D) :: F) := by
  have h32 : ∀ e ∈ l, e.id.length = 32 := fun e he => (hk e he).l32
  refine enterS F_entrepotkit_CopyEvents rfl rfl rfl ?_
  refine sw_fact (fun w H => sl_form (hl w H).sl) ?_
  rintro ⟨A0, c0, rfl, _, _, _, k4, _⟩
  (refine sw_seq ?_; refine sw_region ?_; refine so_1 rfl ?_; refine so_nil ?_; refine sn_then ?_; refine sw_seq ?_; refine sw_region ?_; refine so_1 rfl ?_; refine so_nil ?_; refine sn_then ?_; (iterate 2 refine sw_seq ?_); refine sw_region ?_; refine so_1 rfl ?_; refine so_nil ?_; refine sn_then ?_; refine sw_block ?_)
  refine sw_loop (S := Nat × List Ev × Nat × Option Addr × Nat) (fun s => [(0, .slice A0 l.length c0), (3, .slice s.2.2.2.1 s.2.2.1 s.2.2.2.2), (4, .int .i64 (s.1 : Int))])
    (fun s => rEn s.2.2.2.1 s.2.2.2.2 s.2.2.1 s.2.1 :: all (evF s.2.1) :: F) (fun s => s.1 ≤ l.length ∧ s.2.1.map nE = (l.take s.1).map nE ∧ s.2.1.length = s.2.2.1) (fun s => l.length - s.1) (0, [], 0, none, 0) ⟨rfl, rfl, rfl, trivial⟩ ?_ ⟨Nat.zero_le _, rfl, rfl⟩ ?_
  · exact (ent_close (G := [])).trans (ent_row_nil t_api_Event 39 rfl)
  rintro ⟨i, S, o, A, c⟩ ⟨hi1, hS, ho⟩
  dsimp only at hi1 hS ho ⊢
  have hSl : S.length = i := by have := congrArg List.length hS; rw [List.length_map, List.length_map, List.length_take] at this; omega
  subst ho
  ((iterate 2 refine sw_seq ?_); refine sw_region ?_; (iterate 4 refine so_1 rfl ?_); refine so_nil ?_; refine sn_then ?_)
  refine sw_if rfl (fun h1 => ?_) (fun h1 => ?_)
  · have h1' : i < l.length := by omega
    obtain ⟨gg, oo, rfl⟩ := k4 (by omega)
    have hmem := List.getElem_mem h1'
    have hsn : (l.take (i + 1)).map nE = (l.take i).map nE ++ [nE l[i]] := by rw [List.take_succ_eq_append_getElem h1', List.map_append]; rfl
    have hc : ∀ w, Sat b F w → ∀ j, j < 39 → w.cell? ⟨gg, oo + i * 39 + j, none⟩ = (evC l[i])[j]? := fun w H j hj => ev_cell (hl w H) h32 h1' hj
    have her : ∀ w, Sat b F w → ER w l[i] := fun w H => (hl w H).er _ hmem
    obtain ⟨hx32, hxd, hxr⟩ := hk _ hmem
    generalize l[i] = x at *
    have xl := evC_len hx32
    (refine sw_skip ?_; refine sn_then ?_; refine sw_seq ?_; refine sw_block ?_; refine sw_region ?_; (iterate 3 refine so_1 rfl ?_); refine so_2 rfl (by omega) ?_)
    refine so_rd rfl (fun w H => ex_loadN (cs := evC x) rfl rfl rfl xl (fun j hj => by rw [mulz_eq, Int.toNat_natCast]; exact hc w (H.ent (ent_keep 2 [] rfl rfl)) j (by rw [xl] at hj; exact hj))) rfl ?_
    refine so_call rfl rfl rfl (CopyEvent_S (up her (ent_keep 2 [] rfl rfl)) hx32 hxd hxr) ?_
    rintro _ _ ⟨dv, rv, rfl, rfl⟩
    refine so_fact (fun w H => (H.oat (k := 0) rfl).form) ?_
    rintro ⟨A2, c2, rfl, _, _, _⟩
    refine so_fact (fun w H => (H.oat (k := 1) rfl).form) ?_
    rintro ⟨A3, c3, rfl, _, _, _⟩
    have hyl := evC_len (e := x.own (.slice A2 x.deps.length c2) (.slice A3 x.refs.length c3)) hx32
    have hy1 := evC_one (e := x.own (.slice A2 x.deps.length c2) (.slice A3 x.refs.length c3)) rfl rfl
    have hyn : nE (x.own (.slice A2 x.deps.length c2) (.slice A3 x.refs.length c3)) = nE x := rfl
    have hyP : evP (x.own (.slice A2 x.deps.length c2) (.slice A3 x.refs.length c3)) = [rZ (.slice A2 x.deps.length c2) x.deps, rD (.slice A3 x.refs.length c3) x.refs] := rfl
    generalize x.own (.slice A2 x.deps.length c2) (.slice A3 x.refs.length c3) = y at *
    refine so_lit1 rfl rfl rfl rfl rfl rfl rfl hyl (by decide) fun gl => ?_
    refine so_append 3 rfl rfl rfl rfl rfl rfl rfl rfl rfl (m := 1) (news := evC y) (fun w H => (H.blk (k := 0) rfl).sl (by rw [hyl]) (by decide)) hy1 (by omega) (fun _ => rfl) fun v' => ?_
    refine so_fact (fun w H => (H.oat (k := 3) rfl).form) ?_
    rintro ⟨A', c', rfl, _, _, _⟩
    (refine so_1 rfl ?_; refine so_nil ?_; refine sn_block ?_; refine sn_then ?_; refine sw_region ?_; refine so_1 rfl ?_; refine so_2 rfl (by (unfold I64; omega)) ?_; refine so_1 rfl ?_; refine so_nil ?_)
    rw [show (i : Int) + 1 = ((i + 1 : Nat) : Int) by omega]
    refine sn_ent (G := evP y ++ all (evF S) :: rEn A' c' (S.length + 1) (S ++ [y]) :: F) (by
      have e : evsC (S ++ [y]) = evsC S ++ evC y := by rw [evsC, flC_app, flC, flC, List.append_nil]
      rw [hyP, rEn, e]; exact ent_keep 5 [1, 2, 4, 3] rfl rfl) ?_
    refine sn_ent (ent_in (A := evF (S ++ [y])) evF_snoc) ?_
    refine sn_round (i + 1, S ++ [y], S.length + 1, A', c') ⟨rfl, rfl, rfl, trivial⟩ (ent_keep 2 [1, 0] rfl rfl) ⟨by dsimp only; omega, ?_, by simp⟩ (by dsimp only; omega)
    dsimp only
    rw [List.map_append, hS, hsn, ← hyn]; rfl
  · obtain rfl : i = l.length := by omega
    rw [List.take_length] at hS
    (refine sw_exit ?_; refine sn_then_exit ?_; refine sn_loop_exit ?_; refine sn_block_exit ?_; refine sn_then ?_; refine sw_seq ?_; refine sw_region ?_; (iterate 2 refine so_1 rfl ?_); refine so_nil ?_; refine sn_then ?_; refine sw_ret ?_)
    refine sn_ret rfl (.tmp rfl .nil) (Ent.refl _) ?_
    exact ⟨S, hS, rfl⟩
set_option maxRecDepth 20000 in
set_option maxHeartbeats 4000000 in
theorem SameEvents_S {va vb : Value} {l m : List Ev} (h : l.map nE = m.map nE) (ha : ∀ w, Sat b F w → EL w va l) (hb : ∀ w, Sat b F w → EL w vb m) (h32 : ∀ x ∈ l, x.id.length = 32 ∧ len32 x.refs ∧ x.refs.length ≤ 1000000) :
    SC Tryz.prog n_entrepotkit_SameEvents [va, vb] b F (fun v F' => v = .bool true ∧ F' = F) := by
  have hl : l.length = m.length := by have := congrArg List.length h; rwa [List.length_map, List.length_map] at this
  have hA32 : ∀ x ∈ l, x.id.length = 32 := fun x hx => (h32 x hx).1
  have hB32 : ∀ x ∈ m, x.id.length = 32 := fun x hx => by
    have : nE x ∈ l.map nE := by rw [h]; exact List.mem_map_of_mem hx
    obtain ⟨y, hy, hyx⟩ := List.mem_map.1 this
    rw [← show (nE y).id = x.id by rw [hyx]; rfl]; exact (h32 y hy).1
  refine enterS F_entrepotkit_SameEvents rfl rfl rfl ?_
  refine sw_fact (fun w H => sl_form (ha w H).sl) ?_
  rintro ⟨A, c, rfl, _, _, _, k4, _⟩
  refine sw_fact (fun w H => sl_form (hb w H).sl) ?_
  rintro ⟨B, c2, rfl, _, _, _, k5, _⟩
  (refine sw_seq ?_; refine sw_region ?_; refine so_1 rfl ?_; refine so_nil ?_; refine sn_then ?_; refine sw_seq ?_; refine sw_region ?_; (iterate 6 refine so_1 rfl ?_); refine so_nil ?_; refine sn_then ?_; (iterate 2 refine sw_seq ?_); refine sw_region ?_; refine so_1 rfl ?_; refine so_nil ?_; refine sn_then ?_; refine sw_block ?_)
  refine sw_know 5 (.bool true) rfl (congrArg Value.bool (decide_eq_true (by omega))) ?_
  refine sw_loop (S := Nat) (fun i => [(0, .slice A l.length c), (1, .slice B m.length c2), (5, .bool true), (6, .int .i64 (i : Int))]) (fun _ => F) (fun i => i ≤ l.length) (fun i => l.length - i) 0 ⟨rfl, rfl, rfl, rfl, trivial⟩ (Ent.refl _) (Nat.zero_le _) ?_
  intro i hi
  ((iterate 2 refine sw_seq ?_); refine sw_region ?_; (iterate 7 refine so_1 rfl ?_); refine so_nil ?_; refine sn_then ?_)
  refine sw_if rfl (fun h1 => ?_) (fun h1 => ?_)
  · have h1' : i < l.length := by omega
    have h2' : i < m.length := by omega
    obtain ⟨g1, o1, rfl⟩ := k4 (by omega)
    obtain ⟨g2, o2, rfl⟩ := k5 (by omega)
    have hxy : nE l[i] = nE m[i] := by
      have := congrArg (·[i]?) h
      simpa [h1', h2'] using this
    have hc1 : ∀ w, Sat b F w → ∀ j, j < 39 → w.cell? ⟨g1, o1 + i * 39 + j, none⟩ = (evC l[i])[j]? := fun w H j hj => ev_cell (ha w H) hA32 h1' hj
    have hc2 : ∀ w, Sat b F w → ∀ j, j < 39 → w.cell? ⟨g2, o2 + i * 39 + j, none⟩ = (evC m[i])[j]? := fun w H j hj => ev_cell (hb w H) hB32 h2' hj
    have he1 : ∀ w, Sat b F w → ER w l[i] := fun w H => (ha w H).er _ (List.getElem_mem h1')
    have he2 : ∀ w, Sat b F w → ER w m[i] := fun w H => (hb w H).er _ (List.getElem_mem h2')
    obtain ⟨x32, xr, xn⟩ := h32 _ (List.getElem_mem h1')
    have y32 := hB32 _ (List.getElem_mem h2')
    generalize l[i] = x at *
    generalize m[i] = y at *
    have xl := evC_len x32
    have yl := evC_len y32
    (refine sw_skip ?_; refine sn_then ?_; refine sw_seq ?_; refine sw_block ?_)
    refine sw_draw flo F (by decide +kernel) (Ent.refl _) ?_
    ((iterate 2 refine sd_1 rfl (.inl rfl) ?_); refine sd_2 rfl rfl (by omega) ?_)
    refine sd_rd rfl (fun w H => ex_loadN (cs := evC x) rfl rfl rfl xl (fun j hj => by rw [mulz_eq, Int.toNat_natCast]; exact hc1 w H j (by rw [xl] at hj; exact hj))) rfl rfl ?_
    ((iterate 2 refine sd_1 rfl (.inl rfl) ?_); refine sd_2 rfl rfl (by omega) ?_)
    refine sd_rd rfl (fun w H => ex_loadN (cs := evC y) rfl rfl rfl yl (fun j hj => by rw [mulz_eq, Int.toNat_natCast]; exact hc2 w H j (by rw [yl] at hj; exact hj))) rfl rfl ?_
    refine sd_callE rfl rfl rfl rfl ((SameEvent_S hxy he1 he2 x32 xr xn)) (Ent.refl _) ?_
    (refine sd_1 rfl (.inl rfl) ?_)
    refine sd_nil ?_
    (refine sn_block ?_; refine sn_then ?_; refine sw_region ?_; refine so_1 rfl ?_; refine so_2 rfl (by (unfold I64; omega)) ?_; refine so_1 rfl ?_; refine so_nil ?_)
    rw [show (i : Int) + 1 = ((i + 1 : Nat) : Int) by omega]
    exact sn_round (i + 1) ⟨rfl, rfl, rfl, rfl, trivial⟩ (Ent.refl _) h1' (by omega)
  · (refine sw_exit ?_; refine sn_then_exit ?_; refine sn_loop_exit ?_; refine sn_block_exit ?_; refine sn_then ?_; refine sw_seq ?_; refine sw_region ?_; (iterate 2 refine so_1 rfl ?_); refine so_nil ?_; refine sn_then ?_; refine sw_ret ?_)
    refine sn_ret rfl (.tmp rfl .nil) (Ent.refl _) ?_
    exact ⟨rfl, rfl⟩
end
set_option maxRecDepth 20000 in
set_option maxHeartbeats 2000000 in
theorem walk_EventSorts {W : World} {v : Value} {l : List Ev} (hE : EAs W v l) : Calls Tryz.prog n_entrepotlaw19_EventSorts #[v] W (fun e w' => e = .returned (.bool true) ∧ Ext W w') := by
  refine law_of (args := [v]) ?_
  have hll : ∀ {F : List SP} {k : Nat}, nth F k = some (Is W) → ∀ w, Sat W F w → EL w v l := fun hk w H => hE.el.ext (H.is hk)
  have h32 : ∀ e ∈ l, e.id.length = 32 := fun e he => (hE.ew e he).l32
  refine enterS F_entrepotlaw19_EventSorts rfl rfl rfl ?_
  (refine sw_seq ?_; refine sw_region ?_; refine so_1 rfl ?_; refine so_nil ?_; refine sn_then ?_; (iterate 2 refine sw_seq ?_); refine sw_region ?_; refine so_1 rfl ?_)
  refine so_call rfl rfl rfl (LongEvents_S (many := 30) (hll (k := 0) rfl) h32 (by decide)) ?_
  rintro _ _ ⟨q, hq, rfl, rfl⟩
  cases q with
  | true =>
    (refine so_nil ?_; refine sn_then ?_; refine sw_cond_t rfl ?_; refine sw_seq ?_; refine sw_region ?_)
    refine so_call rfl rfl rfl (awake_S) ?_
    rintro _ _ ⟨rfl, rfl⟩
    (refine so_1 rfl ?_; refine so_nil ?_; refine sn_then ?_; refine sw_ret ?_; refine sn_then_ret ?_)
    refine sn_ret rfl (.tmp rfl .nil) (Ent.refl _) ?_
    exact ⟨rfl, rfl⟩
  | false =>
  obtain ⟨hn, hle⟩ := hq rfl
  have hk : ∀ e ∈ l, EvM e := fun e he => ⟨h32 e he, by have := (hle e he).1; omega, by have := (hle e he).2.1; omega⟩
  have hk3 : ∀ e ∈ l, e.id.length = 32 ∧ len32 e.refs ∧ e.refs.length ≤ 1000000 := fun e he => ⟨h32 e he, (hE.ew e he).r32, (hk e he).rn⟩
  have hmap : ∀ {D : List Ev}, (∀ x ∈ D.map nE, x ∈ l.map nE) → ∀ x ∈ D, EvM x ∧ len32 x.refs := fun {D} hD x hx => by
    obtain ⟨y, hy, hyx⟩ := List.mem_map.1 (hD (nE x) (List.mem_map_of_mem hx))
    refine ⟨(hk y hy).nE hyx.symm, ?_⟩
    have : (nE x).refs = (nE y).refs := by rw [hyx]
    have h2 : x.refs = y.refs := this
    rw [h2]; exact (hE.ew y hy).r32
  (refine so_nil ?_; refine sn_then ?_; refine sw_cond_f rfl ?_; refine sw_skip ?_; refine sn_then ?_; refine sw_seq ?_; refine sw_region ?_; refine so_1 rfl ?_)
  refine so_call rfl rfl rfl (CopyEvents_S (hll (k := 0) rfl) hk (by omega)) ?_
  rintro vi _ ⟨I, hI, rfl⟩
  have hkI := hmap (D := I) (fun x hx => by rw [← hI]; exact hx)
  have hIl : I.length = l.length := by have := congrArg List.length hI; simpa using this
  (refine so_1 rfl ?_; refine so_nil ?_; refine sn_then ?_; refine sw_seq ?_; refine sw_region ?_; refine so_1 rfl ?_)
  refine so_call rfl rfl rfl (Sort_S (rEs_el (k := 0) (j := 1) rfl rfl) (fun e he => (hkI e he).1) (by omega)) ?_
  rintro va _ ⟨D, hD, rfl⟩
  (refine so_1 rfl ?_; refine so_nil ?_; refine sn_then ?_; refine sw_seq ?_; refine sw_region ?_; (iterate 2 refine so_1 rfl ?_))
  refine so_call rfl rfl rfl (rSort_S (hll (k := 4) rfl) hk (by omega)) ?_
  rintro vr _ ⟨D2, hD2, rfl⟩
  rw [hI] at hD
  have hDD : D.map nE = D2.map nE := hD.uniq hD2
  have hp := hD.perm
  have hkD := hmap (D := D) (fun x hx => hp.mem_iff.1 hx)
  have hDl : D.length = l.length := by have := hp.length_eq; simpa using this
  skip
  refine so_callE rfl rfl rfl (SameEvents_S hDD (rEs_el (k := 2) (j := 3) rfl rfl) (rEs_el (k := 0) (j := 1) rfl rfl) (fun x hx => ⟨(hkD x hx).1.l32, (hkD x hx).2, (hkD x hx).1.rn⟩)) ?_
  (refine so_1 rfl ?_; refine so_nil ?_; refine sn_then ?_; refine sw_seq ?_; refine sw_region ?_; refine so_1 rfl ?_)
  refine so_call rfl rfl rfl ((OverEvents_D (F := rEs vi I :: all (evF I) :: [Is W]) (fun x hx => ⟨(hkD x hx).1.l32, (hkD x hx).2⟩) (fun x hx => ⟨(hkD x hx).1.dn, (hkD x hx).1.rn⟩) (by omega)).ent (ent_keep 6 [2, 3, 4, 5] rfl rfl)) ?_
  rintro _ _ rfl
  (refine so_nil ?_; refine sn_then ?_; refine sw_seq ?_; refine sw_region ?_; (iterate 4 refine so_1 rfl ?_))
  refine so_callE rfl rfl rfl (SameEvents_S hI (rEs_el (k := 0) (j := 1) rfl rfl) (hll (k := 2) rfl) (fun x hx => ⟨(hkI x hx).1.l32, (hkI x hx).2, (hkI x hx).1.rn⟩)) ?_
  ((iterate 2 refine so_1 rfl ?_))
  refine so_call rfl rfl rfl (awake_S) ?_
  rintro _ _ ⟨rfl, rfl⟩
  ((iterate 2 refine so_1 rfl ?_); refine so_nil ?_; refine sn_then ?_; refine sw_ret ?_)
  refine sn_ret rfl (.tmp rfl .nil) (ent_keep 2 [] rfl rfl) ?_
  exact ⟨rfl, rfl⟩
end Go.Proofs.YtaglpaoipdmboaaGreat
/- Events: the chapter's examples (EventKnown). Conditions: none. -/
namespace Go.Proofs.YtaglpaoipdmboaaGreat
open Go Go.Eng Go.RowKit

/-- An event near the chapter's. -/
def nearE (id : List Int) (r n : Int) (deps : List Int) (repo tag : ByteArray) (refs : List (List Int)) : Ev := ⟨r, n, nS, deps, 1, repo, tag, id, nS, refs⟩
def untagE (id : List Int) : Ev := ⟨1, 2, nS, [1, 0], 4, ⟨#[114]⟩, ⟨#[116]⟩, id, nS, []⟩
theorem small_ew {e : Ev} (h : idOk e.id) (d1 : 0 ≤ e.r ∧ e.r ≤ 100) (d2 : 0 ≤ e.n ∧ e.n ≤ 100) (hk : 0 ≤ e.kind ∧ e.kind ≤ 100) (hd : ∀ x ∈ e.deps, 0 ≤ x ∧ x ≤ 100) (hr : ∀ x ∈ e.refs, idOk x) (hp : e.repo.size ≤ 100) (ht : e.tag.size ≤ 100) : EW e :=
  ⟨h, ⟨(i64wf _).2 ⟨by dsimp only; omega, by dsimp only; omega⟩, (i64wf _).2 ⟨by dsimp only; omega, by dsimp only; omega⟩⟩, hr, ⟨by omega, by omega⟩, fun x hx => ⟨by have := hd x hx; omega, by have := hd x hx; omega⟩, by unfold maxLen; omega, by unfold maxLen; omega⟩
section
variable {id : List Int}
theorem chk_a (h : IdG id) : chkE (nearE id 1 2 [2, 5] ⟨#[114]⟩ ⟨#[]⟩ [id]) 2 32 = 2 := rfl
theorem chk_b (h : IdG id) : chkE (nearE id 3 3 [2, 5] ⟨#[114]⟩ ⟨#[]⟩ [id]) 2 32 = 2 := rfl
theorem chk_c (h : IdG id) : chkE (nearE id 1 3 [2] ⟨#[114]⟩ ⟨#[]⟩ [id]) 2 32 = 2 := rfl
theorem repo_R : repoF (strI ⟨#[82]⟩) ≠ (0, 0) := by decide
theorem tag_t : tagF (strI ⟨#[116]⟩) = (0, 0) := by decide
theorem chk_d (h : IdG id) : chkE (nearE id 1 3 [2, 5] ⟨#[82]⟩ ⟨#[]⟩ [id]) 2 32 = 7 := by
  have e1 : placedB (nearE id 1 3 [2, 5] ⟨#[82]⟩ ⟨#[]⟩ [id]) 2 = true := rfl
  unfold chkE
  rw [if_neg (by decide), if_neg (by rw [e1]; simp), if_neg (by simp [nearE]), if_pos (show repoF (strI (nearE id 1 3 [2, 5] ⟨#[82]⟩ ⟨#[]⟩ [id]).repo) ≠ (0, 0) from repo_R)]
theorem chk_e (h : IdG id) : chkE (nearE id 1 3 [2, 5] ⟨#[114]⟩ ⟨#[120]⟩ [id]) 2 32 = 2 := by
  have e1 : placedB (nearE id 1 3 [2, 5] ⟨#[114]⟩ ⟨#[120]⟩ [id]) 2 = true := rfl
  have e2 : repoF (strI (nearE id 1 3 [2, 5] ⟨#[114]⟩ ⟨#[120]⟩ [id]).repo) = (0, 0) := repo_r
  have e3 : tagE (nearE id 1 3 [2, 5] ⟨#[114]⟩ ⟨#[120]⟩ [id]) = 2 := rfl
  unfold chkE
  rw [if_neg (by decide), if_neg (by rw [e1]; simp), if_neg (by simp [nearE]), if_neg (by rw [e2]; simp), e3]; rfl
theorem chk_f (h : IdG id) : chkE (nearE id 1 3 [2, 5] ⟨#[114]⟩ ⟨#[]⟩ []) 2 32 = 2 := by
  have e1 : placedB (nearE id 1 3 [2, 5] ⟨#[114]⟩ ⟨#[]⟩ []) 2 = true := rfl
  have e2 : repoF (strI (nearE id 1 3 [2, 5] ⟨#[114]⟩ ⟨#[]⟩ []).repo) = (0, 0) := repo_r
  have e3 : tagE (nearE id 1 3 [2, 5] ⟨#[114]⟩ ⟨#[]⟩ []) = 0 := rfl
  have e4 : idE (nearE id 1 3 [2, 5] ⟨#[114]⟩ ⟨#[]⟩ []) 32 = 0 := by
    show (if (1 : Int) = 4 then _ else if hasM id 32 = true then (0 : Int) else 8) = 0
    rw [h.h32]; rfl
  unfold chkE
  rw [if_neg (by decide), if_neg (by rw [e1]; simp), if_neg (by simp [nearE]), if_neg (by rw [e2]; simp), if_neg (by rw [e3]; simp), if_neg (by rw [e4]; simp)]
  rfl
theorem chk_u (h : IdG id) : chkE (untagE id) 2 32 = 8 := by
  have e1 : placedB (untagE id) 2 = true := rfl
  have e2 : repoF (strI (untagE id).repo) = (0, 0) := repo_r
  have e3 : tagE (untagE id) = 0 := by
    show (if (4 : Int) = 3 ∨ (4 : Int) = 4 then (if tagF (strI ⟨#[116]⟩) = (0, 0) then (0 : Int) else 7) else _) = 0
    rw [if_pos (by decide), tag_t]; rfl
  have e4 : idE (untagE id) 32 = 8 := by
    show (if (4 : Int) = 4 then (if id = List.replicate 32 0 then (0 : Int) else 8) else _) = 8
    rw [if_pos rfl, if_neg h.nz]
  unfold chkE
  rw [if_neg (by decide), if_neg (by rw [e1]; simp), if_neg (by simp [untagE]), if_neg (by rw [e2]; simp), if_neg (by rw [e3]; simp), e4]; rfl
theorem chk_o0 : chkE (oneE id) 0 32 = 3 := rfl
theorem chk_o1 (h : IdG id) : chkE (oneE id) 2 1 = 8 := by
  have e1 : placedB (oneE id) 2 = true := rfl
  have e2 : repoF (strI (oneE id).repo) = (0, 0) := repo_r
  have e3 : tagE (oneE id) = 0 := rfl
  have e4 : idE (oneE id) 1 = 8 := by
    show (if (1 : Int) = 4 then _ else if hasM id 1 = true then (0 : Int) else 8) = 8
    rw [h.h1]; rfl
  unfold chkE
  rw [if_neg (by decide), if_neg (by rw [e1]; simp), if_neg (by simp [oneE]), if_neg (by rw [e2]; simp), if_neg (by rw [e3]; simp), e4]; rfl
end
section
variable {b : World} {F : List SP}
set_option maxRecDepth 20000 in
set_option maxHeartbeats 8000000 in
theorem Known_S : SC Tryz.prog n_entrepotlaw19_EventKnown [] b F (fun v F' => v = .bool true ∧ F' = F) := by
  have hg := sha68_g
  have hone : ∀ {F' : List SP}, SC Tryz.prog n_entrepotlaw19_one [] b F' (fun v G => ∃ dv rv, v = evV ((oneE sha68).own dv rv) ∧ G = rZ dv [2, 5] :: rD rv [sha68] :: F') := one_S
  generalize sha68 = id at hg hone
  have hok := hg.ok
  have h32 := hok.1
  have hr32 : len32 [id] := fun x hx => by rw [List.mem_singleton.1 hx]; exact h32
  have hrf : ∀ x ∈ [id], idOk x := fun x hx => by rw [List.mem_singleton.1 hx]; exact hok
  have hd25 : ∀ x ∈ [(2 : Int), 5], 0 ≤ x ∧ x ≤ 100 := fun x hx => by
    have : x = 2 ∨ x = 5 := by simpa using hx
    omega
  have ew : ∀ {r n : Int} {deps : List Int} {p t : ByteArray} {rs : List (List Int)} (dv rv : Value), (0 ≤ r ∧ r ≤ 100) → (0 ≤ n ∧ n ≤ 100) → (∀ x ∈ deps, 0 ≤ x ∧ x ≤ 100) → (∀ x ∈ rs, idOk x) → p.size ≤ 100 → t.size ≤ 100 → EW ((nearE id r n deps p t rs).own dv rv) := fun dv rv a1 a2 a3 a4 a5 a6 =>
    (small_ew (e := nearE id _ _ _ _ _ _) hok a1 a2 ⟨by show (0 : Int) ≤ 1; decide, by show (1 : Int) ≤ _; decide⟩ a3 a4 a5 a6).own dv rv
  have el : ∀ {r n : Int} {deps : List Int} {p t : ByteArray} {rs : List (List Int)} (dv rv : Value), deps.length ≤ 100 → rs.length ≤ 100 → p.size ≤ 100 → t.size ≤ 100 → EvL ((nearE id r n deps p t rs).own dv rv) := fun dv rv a1 a2 a3 a4 => ⟨by show _ ≤ _; exact Nat.le_trans a1 (by decide), by show _ ≤ _; exact Nat.le_trans a2 (by decide), by show _ ≤ _; exact Nat.le_trans a3 (by decide), by show _ ≤ _; exact Nat.le_trans a4 (by decide)⟩
  refine enterS F_entrepotlaw19_EventKnown rfl rfl rfl ?_
  (refine sw_seq ?_; refine sw_region ?_; refine so_1 rfl ?_; refine so_nil ?_; refine sn_then ?_; refine sw_seq ?_; refine sw_region ?_)
  refine so_call rfl rfl rfl (hone) ?_
  rintro _ _ ⟨dv1, rv1, rfl, rfl⟩
  refine so_call rfl rfl rfl (hone) ?_
  rintro _ _ ⟨dv2, rv2, rfl, rfl⟩
  refine so_call rfl rfl rfl (hone) ?_
  rintro _ _ ⟨dv3, rv3, rfl, rfl⟩
  refine so_call rfl rfl rfl (hone) ?_
  rintro _ _ ⟨dv4, rv4, rfl, rfl⟩
  refine so_call rfl rfl rfl (hone) ?_
  rintro _ _ ⟨dv5, rv5, rfl, rfl⟩
  refine so_call rfl rfl rfl (hone) ?_
  rintro _ _ ⟨dv6, rv6, rfl, rfl⟩
  refine so_fact (fun w H => (⟨er_form (er_rows (e := oneE id) (j := 10) (k := 11) rfl rfl w H), er_form (er_rows (e := oneE id) (j := 8) (k := 9) rfl rfl w H), er_form (er_rows (e := oneE id) (j := 6) (k := 7) rfl rfl w H), er_form (er_rows (e := oneE id) (j := 4) (k := 5) rfl rfl w H), er_form (er_rows (e := oneE id) (j := 2) (k := 3) rfl rfl w H), er_form (er_rows (e := oneE id) (j := 0) (k := 1) rfl rfl w H)⟩ :
    (dv1.oneCell' = true ∧ rv1.oneCell' = true) ∧ (dv2.oneCell' = true ∧ rv2.oneCell' = true) ∧ (dv3.oneCell' = true ∧ rv3.oneCell' = true) ∧ (dv4.oneCell' = true ∧ rv4.oneCell' = true) ∧ (dv5.oneCell' = true ∧ rv5.oneCell' = true) ∧ (dv6.oneCell' = true ∧ rv6.oneCell' = true))) ?_
  rintro ⟨⟨p1, q1⟩, ⟨p2, q2⟩, ⟨p3, q3⟩, ⟨p4, q4⟩, ⟨p5, q5⟩, ⟨p6, q6⟩⟩
  have xl : ∀ dv rv, (evC ((oneE id).own dv rv)).length = 39 := fun dv rv => evC_len h32
  refine so_new rfl rfl rfl rfl rfl fun g1 => ?_
  refine so_new rfl rfl rfl rfl rfl fun g2 => ?_
  refine so_new rfl rfl rfl rfl rfl fun g3 => ?_
  refine so_new rfl rfl rfl rfl rfl fun g4 => ?_
  refine so_new rfl rfl rfl rfl rfl fun g5 => ?_
  refine so_new rfl rfl rfl rfl rfl fun g6 => ?_
  refine so_stW 5 rfl rfl rfl rfl rfl rfl rfl (xl dv1 rv1) (evC_one p1 q1) (by rw [xl]; rfl) ?_
  refine so_stW 4 rfl rfl rfl rfl rfl rfl rfl (xl dv2 rv2) (evC_one p2 q2) (by rw [xl]; rfl) ?_
  refine so_stW 3 rfl rfl rfl rfl rfl rfl rfl (xl dv3 rv3) (evC_one p3 q3) (by rw [xl]; rfl) ?_
  refine so_stW 2 rfl rfl rfl rfl rfl rfl rfl (xl dv4 rv4) (evC_one p4 q4) (by rw [xl]; rfl) ?_
  refine so_stW 1 rfl rfl rfl rfl rfl rfl rfl (xl dv5 rv5) (evC_one p5 q5) (by rw [xl]; rfl) ?_
  refine so_stW 0 rfl rfl rfl rfl rfl rfl rfl (xl dv6 rv6) (evC_one p6 q6) (by rw [xl]; rfl) ?_
  (refine so_nil ?_; refine sn_then ?_; refine sw_seq ?_; refine sw_region ?_; (iterate 2 refine so_1 rfl ?_); refine so_s1 5 rfl rfl rfl rfl ?_; refine so_nil ?_; refine sn_then ?_; refine sw_seq ?_; refine sw_region ?_; (iterate 2 refine so_1 rfl ?_); refine so_s1 4 rfl rfl rfl rfl ?_; refine so_nil ?_; refine sn_then ?_; refine sw_seq ?_; refine sw_region ?_)
  refine so_lit (ints [2]) rfl rfl rfl rfl rfl rfl rfl rfl rfl fun gl => ?_
  (refine so_1 rfl ?_; refine so_s1 4 rfl rfl rfl rfl ?_; refine so_nil ?_; refine sn_then ?_; refine sw_seq ?_; refine sw_region ?_; refine so_1 rfl ?_; refine so_s1 3 rfl rfl rfl rfl ?_; refine so_nil ?_; refine sn_then ?_; refine sw_seq ?_; refine sw_region ?_; refine so_1 rfl ?_)
  refine so_st 2 rfl rfl rfl rfl rfl rfl rfl rfl (show stO (evC ((oneE id).own dv5 rv5)) 5 (.string ⟨#[120]⟩) = some (evC ((nearE id 1 3 [2, 5] ⟨#[114]⟩ ⟨#[120]⟩ [id]).own dv5 rv5)) from rfl) rfl ?_
  (refine so_nil ?_; refine sn_then ?_; refine sw_seq ?_; refine sw_region ?_; refine so_1 rfl ?_)
  refine so_ent (G := pt gl t_int (ints [2]) :: pt g6 t_api_Event (evC ((oneE id).own dv6 rv6)) :: pt g5 t_api_Event (evC ((nearE id 1 3 [2, 5] ⟨#[114]⟩ ⟨#[120]⟩ [id]).own dv5 rv5)) :: pt g4 t_api_Event (evC ((nearE id 1 3 [2, 5] ⟨#[82]⟩ ⟨#[]⟩ [id]).own dv4 rv4)) :: pt g3 t_api_Event (evC ((nearE id 1 3 [2] ⟨#[114]⟩ ⟨#[]⟩ [id]).own (.slice (some ⟨gl, 0, none⟩) 1 1) rv3)) :: pt g2 t_api_Event (evC ((nearE id 3 3 [2, 5] ⟨#[114]⟩ ⟨#[]⟩ [id]).own dv2 rv2)) :: pt g1 t_api_Event (evC ((nearE id 1 2 [2, 5] ⟨#[114]⟩ ⟨#[]⟩ [id]).own dv1 rv1)) :: rZ dv6 [2, 5] :: rD rv6 [id] :: rZ dv5 [2, 5] :: rD rv5 [id] :: rZ dv4 [2, 5] :: rD rv4 [id] :: rZ dv3 [2, 5] :: rD rv3 [id] :: rZ dv2 [2, 5] :: rD rv2 [id] :: rZ dv1 [2, 5] :: rD rv1 [id] :: F) (Ent.refl _) ?_
  refine so_st 1 rfl rfl rfl rfl rfl rfl rfl rfl (show stO (evC ((oneE id).own dv6 rv6)) 38 nS = some (evC ((nearE id 1 3 [2, 5] ⟨#[114]⟩ ⟨#[]⟩ []).own dv6 nS)) from evC_strv (e := (oneE id).own dv6 rv6) h32) rfl ?_
  (refine so_nil ?_; refine sn_then ?_; refine sw_seq ?_; refine sw_region ?_; refine so_1 rfl ?_; refine so_l 6 rfl rfl rfl ?_)
  refine so_lit (ints [1, 0]) rfl rfl rfl rfl rfl rfl rfl rfl rfl fun gu => ?_
  (refine so_1 rfl ?_)
  refine so_ldA 7 rfl rfl rfl rfl rfl rfl (evC_id (e := (nearE id 1 2 [2, 5] ⟨#[114]⟩ ⟨#[]⟩ [id]).own dv1 rv1) h32) rfl ?_
  refine so_B rfl rfl rfl ⟨rfl, rfl, rfl, rfl, rfl, (by show (u8s _).length = _; rw [u8s_len]; exact h32), trivial⟩ ?_
  refine so_know 29 (evV ((untagE id).own (.slice (some ⟨gu, 0, none⟩) 2 2) nS)) rfl rfl ?_
  have ul : (evC ((untagE id).own (.slice (some ⟨gu, 0, none⟩) 2 2) nS)).length = 39 := evC_len h32
  refine so_new rfl rfl rfl rfl rfl fun g7 => ?_
  refine so_stW 0 rfl rfl rfl rfl rfl rfl rfl ul (evC_one rfl rfl) (by rw [ul]; rfl) ?_
  have yl : ∀ {r n : Int} {deps : List Int} {p t : ByteArray} {rs : List (List Int)} (dv rv : Value), (evC ((nearE id r n deps p t rs).own dv rv)).length = 39 := fun dv rv => evC_len h32
  (refine so_nil ?_; refine sn_then ?_; refine sw_seq ?_; refine sw_region ?_)
  refine so_ldA 8 rfl rfl rfl rfl rfl rfl (segO_all (by rw [yl]; rfl)) rfl ?_
  refine so_callE rfl rfl rfl (Check_S (er_rows (e := nearE id 1 2 [2, 5] ⟨#[114]⟩ ⟨#[]⟩ [id]) (j := 19) (k := 20) rfl rfl) (ew dv1 rv1 (by decide) (by decide) hd25 hrf (by decide) (by decide)) (el dv1 rv1 (by decide) (by simp) (by decide) (by decide))) ?_
  rw [chk_own, chk_a hg]
  ((iterate 2 refine so_1 rfl ?_))
  refine so_ldA 7 rfl rfl rfl rfl rfl rfl (segO_all (by rw [yl]; rfl)) rfl ?_
  refine so_callE rfl rfl rfl (Check_S (er_rows (e := nearE id 3 3 [2, 5] ⟨#[114]⟩ ⟨#[]⟩ [id]) (j := 17) (k := 18) rfl rfl) (ew dv2 rv2 (by decide) (by decide) hd25 hrf (by decide) (by decide)) (el dv2 rv2 (by decide) (by simp) (by decide) (by decide))) ?_
  rw [chk_own, chk_b hg]
  ((iterate 3 refine so_1 rfl ?_))
  refine so_ldA 6 rfl rfl rfl rfl rfl rfl (segO_all (by rw [yl]; rfl)) rfl ?_
  refine so_callE rfl rfl rfl (Check_S (e := (nearE id 1 3 [2] ⟨#[114]⟩ ⟨#[]⟩ [id]).own (.slice (some ⟨gl, 0, none⟩) 1 1) rv3) (fun w H => ⟨(H.blk (k := 2) rfl).sl rfl (by decide), (H.oat (k := 16) rfl).sl⟩) (ew _ rv3 (by decide) (by decide) (by decide) hrf (by decide) (by decide)) (el _ rv3 (by decide) (by simp) (by decide) (by decide))) ?_
  rw [chk_own, chk_c hg]
  ((iterate 3 refine so_1 rfl ?_))
  refine so_ldA 5 rfl rfl rfl rfl rfl rfl (segO_all (by rw [yl]; rfl)) rfl ?_
  refine so_callE rfl rfl rfl (Check_S (er_rows (e := nearE id 1 3 [2, 5] ⟨#[82]⟩ ⟨#[]⟩ [id]) (j := 13) (k := 14) rfl rfl) (ew dv4 rv4 (by decide) (by decide) hd25 hrf (by decide) (by decide)) (el dv4 rv4 (by decide) (by simp) (by decide) (by decide))) ?_
  rw [chk_own, chk_d hg]
  ((iterate 3 refine so_1 rfl ?_))
  refine so_ldA 4 rfl rfl rfl rfl rfl rfl (segO_all (by rw [yl]; rfl)) rfl ?_
  refine so_callE rfl rfl rfl (Check_S (er_rows (e := nearE id 1 3 [2, 5] ⟨#[114]⟩ ⟨#[120]⟩ [id]) (j := 11) (k := 12) rfl rfl) (ew dv5 rv5 (by decide) (by decide) hd25 hrf (by decide) (by decide)) (el dv5 rv5 (by decide) (by simp) (by decide) (by decide))) ?_
  rw [chk_own, chk_e hg]
  ((iterate 3 refine so_1 rfl ?_))
  refine so_ldA 3 rfl rfl rfl rfl rfl rfl (segO_all (by rw [yl]; rfl)) rfl ?_
  refine so_callE rfl rfl rfl (Check_S (e := (nearE id 1 3 [2, 5] ⟨#[114]⟩ ⟨#[]⟩ []).own dv6 nS) (fun w H => ⟨(H.oat (k := 9) rfl).sl, nil_sl32 w⟩) (ew _ nS (by decide) (by decide) hd25 (fun x hx => by cases hx) (by decide) (by decide)) (el _ nS (by decide) (by simp) (by decide) (by decide))) ?_
  rw [chk_own, chk_f hg]
  ((iterate 3 refine so_1 rfl ?_); refine so_nil ?_; refine sn_then ?_; refine sw_seq ?_; refine sw_region ?_)
  refine so_callE rfl rfl rfl (awake_S) ?_
  ((iterate 4 refine so_1 rfl ?_))
  refine so_call rfl rfl rfl (hone) ?_
  rintro _ _ ⟨dva, rva, rfl, rfl⟩
  refine so_callE rfl rfl rfl (Check_S (er_rows (e := oneE id) (j := 0) (k := 1) rfl rfl) (one_ew hok _ _) (one_l id _ _)) ?_
  rw [chk_own, chk_o0]
  ((iterate 3 refine so_1 rfl ?_))
  refine so_call rfl rfl rfl (hone) ?_
  rintro _ _ ⟨dvb, rvb, rfl, rfl⟩
  refine so_callE rfl rfl rfl (Check_S (er_rows (e := oneE id) (j := 0) (k := 1) rfl rfl) (one_ew hok _ _) (one_l id _ _)) ?_
  rw [chk_own, chk_o1 hg]
  ((iterate 3 refine so_1 rfl ?_))
  refine so_ldA 4 rfl rfl rfl rfl rfl rfl (segO_all (by rw [ul]; rfl)) rfl ?_
  refine so_callE rfl rfl rfl (Check_S (e := (untagE id).own (.slice (some ⟨gu, 0, none⟩) 2 2) nS) (fun w H => ⟨(H.blk (k := 5) rfl).sl rfl (by decide), nil_sl32 w⟩) ((small_ew (e := untagE id) hok (by show (0 : Int) ≤ 1 ∧ (1 : Int) ≤ 100; decide) (by show (0 : Int) ≤ 2 ∧ (2 : Int) ≤ 100; decide) (by show (0 : Int) ≤ 4 ∧ (4 : Int) ≤ 100; decide) (by show ∀ x ∈ [(1 : Int), 0], 0 ≤ x ∧ x ≤ 100; decide) (fun x hx => by cases hx) (by show (1 : Nat) ≤ 100; decide) (by show (1 : Nat) ≤ 100; decide)).own _ _) ⟨by show (2 : Nat) ≤ _; decide, by show (0 : Nat) ≤ _; decide, by show (1 : Nat) ≤ _; decide, by show (1 : Nat) ≤ _; decide⟩) ?_
  rw [chk_own, chk_u hg]
  ((iterate 3 refine so_1 rfl ?_))
  refine so_call rfl rfl rfl (hone) ?_
  rintro _ _ ⟨dvc, rvc, rfl, rfl⟩
  refine so_callE rfl rfl rfl (at_S (deps := [])) ?_
  refine so_callE rfl rfl rfl (Needs_S (y := atE 1 3 (.slice none 0 0) []) (er_rows (e := oneE id) (j := 0) (k := 1) rfl rfl)) ?_
  refine so_know 80 (.bool false) rfl rfl ?_
  ((iterate 3 refine so_1 rfl ?_))
  refine so_call rfl rfl rfl (hone) ?_
  rintro _ _ ⟨dvd, rvd, rfl, rfl⟩
  refine so_lit (ints [1, 0]) rfl rfl rfl rfl rfl rfl rfl rfl rfl fun gz => ?_
  refine so_callE rfl rfl rfl (at_S (deps := [1, 0])) ?_
  refine so_callE rfl rfl rfl (eLess_S (er_rows (e := oneE id) (j := 1) (k := 2) rfl rfl) (y := atE 2 1 (.slice (some ⟨gz, 0, none⟩) 2 2) [1, 0]) (fun w H => ⟨(H.blk (k := 0) rfl).sl rfl (by decide), nil_sl32 w⟩)) ?_
  refine so_know 87 (.bool false) rfl rfl ?_
  ((iterate 3 refine so_1 rfl ?_); refine so_nil ?_; refine sn_then ?_; refine sw_ret ?_)
  refine sn_ret rfl (.tmp rfl .nil) (ent_keep 30 [] rfl rfl) ?_
  exact ⟨rfl, rfl⟩
end
theorem walk_EventKnown {W : World} : Calls Tryz.prog n_entrepotlaw19_EventKnown #[] W (fun e w' => e = .returned (.bool true) ∧ Ext W w') := law_of (args := []) Known_S
end Go.Proofs.YtaglpaoipdmboaaGreat
/- Events: what is encoded is decoded as it was (EventBack). Conditions: none. -/
namespace Go.Proofs.YtaglpaoipdmboaaGreat
open Go Go.Eng Go.RowKit

theorem vl_take {α : Type} {f : α → Value} {w : World} {A : Option Addr} {n c k : Nat} {xs : List α} (hv : VL f w (.slice A n c) xs) (hk : k ≤ xs.length) : VL f w (.slice A k c) (xs.take k) := by
  obtain ⟨A0, c0, h1, h2, h3, h4, h5⟩ := hv.form
  simp only [Value.slice.injEq] at h1
  obtain ⟨rfl, rfl, rfl⟩ := h1
  have := VL.sub (A' := A) (c' := c) (l := 0) (h := k) hv (Nat.zero_le _) hk (by omega) h3 (fun _ bk off hA => by rw [hA]; rfl) h4
  simpa using this
theorem evN_of {e : Ev} (h : EW e) : EvN e := by
  have h1 := i64_of h.dot.1; have h2 := i64_of h.dot.2; have h3 := h.kind
  unfold I64 at h1 h2 h3
  dsimp only at h1 h2
  exact ⟨by omega, by omega, by omega, fun x hx => by have := h.dp x hx; unfold I64 at this; omega, h.l32, h.r32⟩
/-- What is decoded is not much. -/
theorem dec_w (B : List Int) : (decE B).1.id.length = 32 ∧ len32 (decE B).1.refs ∧ (decE B).1.deps.length ≤ 16 ∧ (decE B).1.refs.length ≤ 256 := by
  have hz : evZ.id.length = 32 ∧ len32 evZ.refs ∧ evZ.deps.length ≤ 16 ∧ evZ.refs.length ≤ 256 := ⟨rfl, fun x hx => (by cases hx), by decide, by decide⟩
  unfold decE
  split
  · exact hz
  · dsimp only
    split
    · exact hz
    · split
      · exact hz
      · rename_i h1 h2 h3
        have a0 : (r0 : RS).e = 0 → (r0 : RS).at' ≤ B.length := fun _ => Nat.zero_le _
        have a5 := go_at (go_bytes 64) (go_at (go_bytes 128) (go_at go_num (go_at (go_vec 16) (go_at go_dot a0))))
        have a7 := go_at go_num (go_at go_id a5)
        refine ⟨rID_len a5, rIDs_32 a7 _, ?_, ?_⟩
        · show (rVec B 16 (rDot B r0).2).1.length ≤ 16
          generalize (rDot B r0).2 = s
          unfold rVec
          dsimp only
          split
          · simp
          · rename_i h9
            rw [rNums_len]
            have h0 : (rMany B 16 s).2.e = 0 := Decidable.byContradiction fun hne => h9 (by rw [rNums_stuck hne]; exact hne)
            have := rMany_le h0
            omega
        · show (rIDs B _ _).1.length ≤ 256
          rw [rIDs_len]
          have h2' : ¬ (256 : Int) < (rNum B (rID B (rBytes B 64 (rBytes B 128 (rNum B (rVec B 16 (rDot B r0).2).2).2).2).2).2).1 := h2
          omega
set_option maxRecDepth 20000 in
set_option maxHeartbeats 8000000 in
theorem walk_EventBack {W : World} {v : Value} {e : Ev} {n width cut : Int} (hE : EA W v e) : Calls Tryz.prog n_entrepotlaw19_EventBack #[v, .int .i64 n, .int .i64 width, .int .i64 cut] W (fun e w' => e = .returned (.bool true) ∧ Ext W w') := by
  obtain ⟨rfl, hw, her0⟩ := hE
  refine law_of (args := [evV e, .int .i64 n, .int .i64 width, .int .i64 cut]) ?_
  have her : ∀ {F : List SP} {k : Nat}, nth F k = some (Is W) → ∀ w, Sat W F w → ER w e := fun hk w H => her0.ext (H.is hk)
  have h32 := hw.l32
  have hN := evN_of hw
  refine enterS F_entrepotlaw19_EventBack rfl rfl rfl ?_
  obtain ⟨A1, c1, hdv, _, _, _, _⟩ := her0.dv.form
  refine sw_fact (fun w H => er_form (her (k := 0) rfl w H)) ?_
  rintro ⟨o1, o2⟩
  have xl := evC_len h32
  have x1 := evC_one o1 o2
  (refine sw_seq ?_; refine sw_region ?_)
  refine so_box rfl rfl rfl rfl rfl fun g4 => ?_
  (refine so_1 rfl ?_; refine so_nil ?_; refine sn_then ?_; refine sw_seq ?_; refine sw_region ?_)
  refine so_callE rfl rfl rfl (Known_S) ?_
  (refine so_1 rfl ?_; refine so_nil ?_; refine sn_then ?_; (iterate 2 refine sw_seq ?_); refine sw_region ?_)
  refine so_ldA 0 rfl rfl rfl rfl rfl rfl (segO_all (by rw [xl]; rfl)) rfl ?_
  refine so_call rfl rfl rfl (LongEvent_S h32 (her (k := 1) rfl)) ?_
  rintro _ _ ⟨q, hq, rfl, rfl⟩
  cases q with
  | true =>
    (refine so_nil ?_; refine sn_then ?_; refine sw_cond_t rfl ?_; refine sw_seq ?_; refine sw_region ?_; (iterate 2 refine so_1 rfl ?_); refine so_nil ?_; refine sn_then ?_; refine sw_ret ?_; refine sn_then_ret ?_)
    refine sn_ret rfl (.tmp rfl .nil) (ent_keep 1 [] rfl rfl) ?_
    exact ⟨rfl, rfl⟩
  | false =>
  obtain ⟨q1, q2, q3, q4⟩ := hq rfl
  have hl : EvL e := ⟨by omega, by omega, by omega, by omega⟩
  have hsp := strI_length e.repo
  have hst := strI_length e.tag
  (refine so_nil ?_; refine sn_then ?_; refine sw_cond_f rfl ?_; refine sw_skip ?_; refine sn_then ?_; refine sw_seq ?_; refine sw_region ?_)
  refine so_ldA 0 rfl rfl rfl rfl rfl rfl (segO_all (by rw [xl]; rfl)) rfl ?_
  refine so_call rfl rfl rfl (Encode_S (her (k := 1) rfl) hw hl) ?_
  rintro _ _ ⟨rb, rfl, rfl⟩
  refine so_fact (fun w H => (H.oat (k := 0) rfl).form) ?_
  rintro ⟨Ab, cb, rfl, hb1, hb2, hb3⟩
  ((iterate 5 refine so_1 rfl ?_); refine so_nil ?_; refine sn_then ?_; (iterate 2 refine sw_seq ?_); refine sw_region ?_; (iterate 2 refine so_1 rfl ?_); refine so_nil ?_; refine sn_then ?_)
  refine sw_ifn rfl (fun he => ?_) (fun he => ?_)
  · have hbad := encE_bad he
    have hck : chkE e n width ≠ 0 := fun hc => he (chk_enc hc hN).1
    rw [hbad]
    (refine sw_seq ?_; refine sw_region ?_; (iterate 7 refine so_1 rfl ?_))
    refine so_ldA 1 rfl rfl rfl rfl rfl rfl (segO_all (by rw [xl]; rfl)) rfl ?_
    ((iterate 2 refine so_1 rfl ?_))
    refine so_callE rfl rfl rfl (Check_S (her (k := 2) rfl) hw hl) ?_
    ((iterate 3 refine so_1 rfl ?_); refine so_nil ?_; refine sn_then ?_; refine sw_ret ?_; refine sn_then_ret ?_)
    refine sn_ret rfl (.tmp rfl .nil) (ent_keep 2 [] rfl rfl) ?_
    exact ⟨congrArg Value.bool (by rw [decide_eq_false hck]; rfl), rfl⟩
  obtain ⟨_, hEB, hlen, _⟩ := encE_ok he
  have hbb := enc_bytes hw
  have hcut2 := fun k (hk : k < (encE e).1.length) => decE_cut (B := (encE e).1) (k := k)
  rw [hEB] at hbb hb1 ⊢
  have hdo := dec_over hN he ⟨by omega, by omega, by omega⟩
  have hde := dec_enc hN he
  have hpos : 0 < (encB e).length := by
    unfold encB; simp only [List.length_append]; have := numB_len e.r; omega
  have hcu := fun (k : Nat) (h0 : (decE (encB e)).2.1 = 0) (hk : k < (encB e).length) => decE_cut h0 hk
  have hmo := fun (h0 : (decE (encB e)).2.1 = 0) => decE_more h0 1
  generalize encB e = B at hlen hbb hb1 hdo hde hpos hcu hmo ⊢
  (refine sw_skip ?_; refine sn_then ?_; refine sw_seq ?_; refine sw_region ?_; refine so_1 rfl ?_)
  refine so_call rfl rfl rfl (Decode_S (vlB (l := B) (k := 0) rfl) (by omega) hbb) ?_
  rintro _ _ ⟨dv2, rv2, rfl, rfl⟩
  have yl : (evC ((decE B).1.own dv2 rv2)).length = 39 := evC_len (dec_w B).1
  refine so_fact (fun w H => er_form (er_rows (e := (decE B).1) (j := 0) (k := 1) rfl rfl w H)) ?_
  rintro ⟨o3, o4⟩
  have y1 := evC_one (e := (decE B).1.own dv2 rv2) o3 o4
  ((iterate 3 refine so_1 rfl ?_))
  refine so_new rfl rfl rfl rfl rfl fun g12 => ?_
  refine so_new rfl rfl rfl rfl rfl fun g13 => ?_
  refine so_stW 1 rfl rfl rfl rfl rfl rfl rfl yl y1 (by rw [yl]; rfl) ?_
  (refine so_s1 0 rfl rfl rfl rfl ?_; refine so_nil ?_; refine sn_then ?_; (iterate 2 refine sw_seq ?_); refine sw_region ?_; refine so_1 rfl ?_; refine so_l 5 rfl rfl rfl ?_)
  rw [hdv]
  ((iterate 3 refine so_1 rfl ?_))
  refine so_if 51 rfl (fun k1 => ?_) (fun k1 => ?_)
  · ((iterate 11 refine so_1 rfl ?_); refine so_nil ?_; refine sn_then ?_; refine sw_cond_t rfl ?_; refine sw_seq ?_; refine sw_region ?_; (iterate 3 refine so_1 rfl ?_); refine so_l 0 rfl rfl rfl ?_; (iterate 3 refine so_1 rfl ?_))
    have h4 := hdo (.inl (by omega))
    have hck : chkE e n width ≠ 0 := chk_bad (.inl (by omega))
    rw [h4]
    skip
    refine so_ldA 5 rfl rfl rfl rfl rfl rfl (segO_all (by rw [xl]; rfl)) rfl ?_
    ((iterate 2 refine so_1 rfl ?_))
    refine so_callE rfl rfl rfl (Check_S (her (k := 6) rfl) hw hl) ?_
    ((iterate 3 refine so_1 rfl ?_); refine so_nil ?_; refine sn_then ?_; refine sw_ret ?_; refine sn_then_ret ?_)
    refine sn_ret rfl (.tmp rfl .nil) (ent_keep 6 [] rfl rfl) ?_
    exact ⟨congrArg Value.bool (by rw [decide_eq_false hck]; rfl), rfl⟩
  (refine so_1 rfl ?_; refine so_l 5 rfl rfl rfl ?_; (iterate 4 refine so_1 rfl ?_))
  refine so_if 57 rfl (fun k2 => ?_) (fun k2 => ?_)
  · ((iterate 5 refine so_1 rfl ?_); refine so_nil ?_; refine sn_then ?_; refine sw_cond_t rfl ?_; refine sw_seq ?_; refine sw_region ?_; (iterate 3 refine so_1 rfl ?_); refine so_l 0 rfl rfl rfl ?_; (iterate 3 refine so_1 rfl ?_))
    have h4 := hdo (.inr (.inl (by omega)))
    have hck : chkE e n width ≠ 0 := chk_bad (.inr (.inl (by omega)))
    rw [h4]
    skip
    refine so_ldA 5 rfl rfl rfl rfl rfl rfl (segO_all (by rw [xl]; rfl)) rfl ?_
    ((iterate 2 refine so_1 rfl ?_))
    refine so_callE rfl rfl rfl (Check_S (her (k := 6) rfl) hw hl) ?_
    ((iterate 3 refine so_1 rfl ?_); refine so_nil ?_; refine sn_then ?_; refine sw_ret ?_; refine sn_then_ret ?_)
    refine sn_ret rfl (.tmp rfl .nil) (ent_keep 6 [] rfl rfl) ?_
    exact ⟨congrArg Value.bool (by rw [decide_eq_false hck]; rfl), rfl⟩
  (refine so_1 rfl ?_; refine so_l 5 rfl rfl rfl ?_; (iterate 3 refine so_1 rfl ?_); refine so_nil ?_; refine sn_then ?_)
  refine sw_if rfl (fun k3 => ?_) (fun k3 => ?_)
  · (refine sw_seq ?_; refine sw_region ?_; (iterate 3 refine so_1 rfl ?_); refine so_l 0 rfl rfl rfl ?_; (iterate 3 refine so_1 rfl ?_))
    have h4 := hdo (.inr (.inr (by omega)))
    have hck : chkE e n width ≠ 0 := chk_bad (.inr (.inr (by omega)))
    rw [h4]
    skip
    refine so_ldA 5 rfl rfl rfl rfl rfl rfl (segO_all (by rw [xl]; rfl)) rfl ?_
    ((iterate 2 refine so_1 rfl ?_))
    refine so_callE rfl rfl rfl (Check_S (her (k := 6) rfl) hw hl) ?_
    ((iterate 3 refine so_1 rfl ?_); refine so_nil ?_; refine sn_then ?_; refine sw_ret ?_; refine sn_then_ret ?_)
    refine sn_ret rfl (.tmp rfl .nil) (ent_keep 6 [] rfl rfl) ?_
    exact ⟨congrArg Value.bool (by rw [decide_eq_false hck]; rfl), rfl⟩
  have hd := hde (by omega) (by omega) (by omega)
  have hd0 : (decE B).2.1 = 0 := by rw [hd]
  have hmo := hmo hd0
  have hyo : (decE B).1.own dv2 rv2 = e.own dv2 rv2 := by rw [hd]; rfl
  have hd2 : (decE B).2 = (0, 0) := by rw [hd]
  have hdd : (decE B).1.deps = e.deps := by rw [hd]; rfl
  have hdr : (decE B).1.refs = e.refs := by rw [hd]; rfl
  rw [hyo] at yl y1 ⊢
  rw [hd2, hdd, hdr]
  obtain ⟨k, hk, hkl⟩ : ∃ k : Nat, (if (B.length : Int) ≤ 0 then 0 else cut % (B.length : Int)) = (k : Int) ∧ k < B.length := by
    rw [if_neg (by omega)]
    have h1 := Int.emod_nonneg cut (b := (B.length : Int)) (by omega)
    have h2 := Int.emod_lt_of_pos cut (b := (B.length : Int)) (by omega)
    exact ⟨(cut % (B.length : Int)).toNat, by omega, by omega⟩
  have hck := hcu k hd0 hkl
  (refine sw_skip ?_; refine sn_then ?_; refine sw_seq ?_; refine sw_region ?_; (iterate 4 refine so_1 rfl ?_))
  refine so_call rfl rfl rfl (Pick_S (n := B.length) ⟨by omega, by omega⟩) ?_
  rintro _ _ ⟨rfl, rfl⟩
  rw [hk]
  (refine so_2 rfl (by omega) ?_)
  refine so_know 82 (.slice Ab k cb) rfl (by rw [Int.toNat_natCast]) ?_
  have hvk : ∀ w, Sat W (pt g13 t_api_Fault [.int .i64 0, .int .i64 0] :: pt g12 t_api_Event (evC (e.own dv2 rv2)) :: rZ dv2 e.deps :: rD rv2 e.refs :: rB (.slice Ab B.length cb) B :: pt g4 t_api_Event (evC e) :: [Is W]) w → VL (Value.int .u8) w (.slice Ab k cb) (B.take k) := fun w H => vl_take (vlB (l := B) (v := .slice Ab B.length cb) (k := 4) rfl w H) (by omega)
  refine so_call rfl rfl rfl (Decode_S hvk (by simp; omega) (hbb.take k)) ?_
  rintro _ _ ⟨dv3, rv3, rfl, rfl⟩
  have zl : (evC ((decE (B.take k)).1.own dv3 rv3)).length = 39 := evC_len (dec_w (B.take k)).1
  refine so_fact (fun w H => er_form (er_rows (e := (decE (B.take k)).1) (j := 0) (k := 1) rfl rfl w H)) ?_
  rintro ⟨o5, o6⟩
  have z1 := evC_one (e := (decE (B.take k)).1.own dv3 rv3) o5 o6
  ((iterate 3 refine so_1 rfl ?_))
  refine so_new rfl rfl rfl rfl rfl fun g14 => ?_
  refine so_new rfl rfl rfl rfl rfl fun g15 => ?_
  refine so_stW 1 rfl rfl rfl rfl rfl rfl rfl zl z1 (by rw [zl]; rfl) ?_
  (refine so_s1 0 rfl rfl rfl rfl ?_; refine so_nil ?_; refine sn_then ?_; refine sw_seq ?_; refine sw_region ?_; refine so_1 rfl ?_)
  refine so_call rfl rfl rfl (SC.ofMade fun w H => CopyBytes_spec (vlB (l := B) (v := .slice Ab B.length cb) (k := 8) rfl w H) (by omega)) ?_
  rintro rc _ rfl
  refine so_lit [.int .u8 1] rfl rfl rfl rfl rfl rfl rfl rfl rfl fun gl => ?_
  refine so_append 1 rfl rfl rfl rfl rfl rfl rfl rfl rfl (vl1 (l := [1]) (k := 0) rfl (by decide) rfl) (u8s_one [1]) (by simp; omega) (fun _ => rfl) fun rd => ?_
  refine so_ent (ent_rB (l := B ++ [1]) 1 rfl (by simp) (by simp) rfl) ?_
  refine so_call rfl rfl rfl (Decode_S (vlB (l := B ++ [1]) (k := 1) rfl) (by simp; omega) (hbb.app (.cons (by decide) .nil))) ?_
  rintro _ _ ⟨dv4, rv4, rfl, rfl⟩
  have ul : (evC ((decE (B ++ [1])).1.own dv4 rv4)).length = 39 := evC_len (dec_w (B ++ [1])).1
  refine so_fact (fun w H => er_form (er_rows (e := (decE (B ++ [1])).1) (j := 0) (k := 1) rfl rfl w H)) ?_
  rintro ⟨o7, o8⟩
  have u1 := evC_one (e := (decE (B ++ [1])).1.own dv4 rv4) o7 o8
  rw [hmo]
  ((iterate 3 refine so_1 rfl ?_))
  refine so_new rfl rfl rfl rfl rfl fun g16 => ?_
  refine so_new rfl rfl rfl rfl rfl fun g17 => ?_
  refine so_stW 1 rfl rfl rfl rfl rfl rfl rfl ul u1 (by rw [ul]; rfl) ?_
  (refine so_s1 0 rfl rfl rfl rfl ?_; refine so_nil ?_; refine sn_then ?_; refine sw_seq ?_; refine sw_region ?_; (iterate 2 refine so_1 rfl ?_); refine so_l 10 rfl rfl rfl ?_; refine so_1 rfl ?_)
  refine so_pu rfl (pu_eqA rfl rfl (eq_fault 0 0 0 0)) rfl ?_
  ((iterate 2 refine so_1 rfl ?_))
  refine so_ldA 11 rfl rfl rfl rfl rfl rfl (segO_all (by rw [yl]; rfl)) rfl ?_
  refine so_ldA 15 rfl rfl rfl rfl rfl rfl (segO_all (by rw [xl]; rfl)) rfl ?_
  refine so_callE rfl rfl rfl (SameEvent_S (e := e.own dv2 rv2) (f := e) rfl (er_rows (e := e) (j := 12) (k := 13) rfl rfl) (her (k := 16) rfl) h32 hw.r32 (by show e.refs.length ≤ _; omega)) ?_
  ((iterate 3 refine so_1 rfl ?_); refine so_l 6 rfl rfl rfl ?_; (iterate 3 refine so_1 rfl ?_))
  refine so_know 110 (.bool true) rfl (by rw [decide_eq_false hck]; rfl) ?_
  (refine so_l 0 rfl rfl rfl ?_; (iterate 3 refine so_1 rfl ?_))
  refine so_pu rfl (pu_eqA rfl rfl (eq_fault 4 (B.length : Int) 4 (B.length : Int))) rfl ?_
  refine so_know 115 (.bool true) rfl (by simp) ?_
  ((iterate 2 refine so_1 rfl ?_); refine so_nil ?_; refine sn_then ?_; refine sw_ret ?_)
  refine sn_ret rfl (.tmp rfl .nil) (ent_keep 16 [] rfl rfl) ?_
  exact ⟨rfl, rfl⟩
end Go.Proofs.YtaglpaoipdmboaaGreat
