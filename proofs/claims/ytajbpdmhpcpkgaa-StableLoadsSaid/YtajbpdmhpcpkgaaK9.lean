/- Who has what, part twenty-three: the chapter's examples. Conditions: none. -/
import Derived.Test.YtajbpdmhpcpkgaaK8
import Derived.Test.YtajbpdmhpcpkgaaK3
namespace Go.Proofs.Ytajbpdmhpcpkgaa
open Go Go.Eng Go.RowKit Go.WideMaps

/-- The chapter's events. -/
def mkA (r n : Int) (dv : Value) (deps : List Int) : Ev := ⟨r, n, dv, deps, 4, ⟨#[97]⟩, ⟨#[118]⟩, List.replicate 32 0, .slice none 0 0, []⟩
abbrev eA : Ev := mkA 1 1 nS [0, 0, 0]
abbrev fA : Ev := mkA 2 1 nS [1, 0, 0]
abbrev R0 : List (List Int) := [[0, 0, 0], [0, 0, 0], [0, 0, 0]]
abbrev R1 : List (List Int) := [[1, 1, 0], [0, 0, 0], [0, 0, 0]]
abbrev R2 : List (List Int) := [[1, 1, 0], [1, 1, 0], [0, 0, 0]]
abbrev R3 : List (List Int) := [[1, 1, 0], [1, 1, 0], [1, 0, 0]]
theorem mkA_g {r n : Int} {dv : Value} {deps : List Int} (h1 : 0 ≤ r ∧ r ≤ 1000) (h2 : 0 ≤ n ∧ n ≤ 1000) (h3 : deps.length ≤ 1000) : EvG (mkA r n dv deps) :=
  ⟨⟨rfl, by show deps.length ≤ 1000000; omega, by show 0 ≤ 1000000; omega⟩, (fun x hx => by simp [mkA] at hx), ⟨(i64wf _).2 (by show I64 r; unfold I64; omega), (i64wf _).2 (by show I64 n; unfold I64; omega)⟩⟩
section
variable {b : World} {F : List SP} {v : Value} {xs : List Int} {g gr gm : Nat} {own : Int} {R : List (List Int)} {K L : List Ev} {e : Ev}
theorem pt_vl {g k : Nat} {j : Nat} (hj : nth F j = some (pt g t_int (ints xs))) (hk : k = xs.length) (hm : k ≤ 1000) : ∀ w, Sat b F w → VL (Value.int .i64) w (.slice (some ⟨g, 0, none⟩) k k) xs := fun w H => by
  subst hk
  exact (H.blk hj).sl (by simp) (by omega)
theorem mkA_er {r m : Int} {deps : List Int} (h : ∀ w, Sat b F w → VL (Value.int .i64) w v deps) : ∀ w, Sat b F w → ER w (mkA r m v deps) := fun w H => ⟨h w H, SL.nil w 32⟩
theorem pt_el {g j : Nat} (hj : nth F j = some (pt g t_api_Event (evC e))) (h32 : e.id.length = 32) (he : ∀ w, Sat b F w → ER w e) : ∀ w, Sat b F w → EL w (.slice (some ⟨g, 0, none⟩) 1 1) [e] := fun w H => ⟨by
  have e1 : evsC [e] = evC e := by simp [flC]
  rw [e1]
  exact (H.blk hj).sl (by rw [evC_len h32]) (by decide), fun m hm => by rw [List.mem_singleton.1 hm]; exact he w H⟩
set_option maxRecDepth 20000 in
theorem made_S {r m : Int} {A : Option Addr} {k c : Nat} {deps : List Int} : SC Try.prog n_entrepotlaw24_made [.int .i64 r, .int .i64 m, .slice A k c] b F (fun u F' => u = evV (mkA r m (.slice A k c) deps) ∧ F' = F) := by
  refine enterS F_entrepotlaw24_made rfl rfl rfl ?_
  (refine sw_seq ?_; refine sw_region ?_)
  refine so_new rfl rfl rfl rfl rfl fun g6 => ?_
  (refine so_nil ?_; refine sn_then ?_; refine sw_seq ?_; refine sw_region ?_; (iterate 5 refine so_1 rfl ?_); refine so_s1 0 rfl rfl rfl rfl ?_; refine so_nil ?_; refine sn_then ?_; refine sw_ret ?_)
  refine sn_ret rfl (.agg 0 rfl rfl rfl rfl rfl .nil) (ent_keep 1 [] rfl rfl) ?_
  exact ⟨rfl, rfl⟩
set_option maxRecDepth 20000 in
set_option maxHeartbeats 2000000 in
theorem keeps_S {want : Bool} {err : Int} (hsi : StI R K L) (ho : regB R.length own = true) (hd : dotOk (dotE e)) (he : ∀ w, Sat b F w → ER w e) (hm : EvM e) (hk : (keepB own R K e).1 = (want, err)) :
    SC Try.prog n_entrepotlaw24_keeps [.pointer (some ⟨g, 0, none⟩), evV e, .bool want, .int .i64 err] b (stM g gr gm own R K F) (fun u F' => u = .bool true ∧
      (((keepB own R K e).2 = false ∧ F' = stM g gr gm own R K F) ∨ ((keepB own R K e).2 = true ∧ ∃ y, nE y = nE e ∧ F' = stM g gr gm own R (K ++ [y]) F))) := by
  have hel := evC_len hm.l32
  refine enterS F_entrepotlaw24_keeps rfl rfl rfl ?_
  (refine sw_seq ?_; refine sw_region ?_)
  refine so_box rfl rfl rfl rfl rfl fun g5 => ?_
  (refine so_1 rfl ?_; refine so_nil ?_; refine sn_then ?_; refine sw_seq ?_; refine sw_region ?_; refine so_1 rfl ?_)
  refine so_ldA 0 rfl rfl rfl rfl rfl rfl (segO_all (by rw [hel]; rfl)) rfl ?_
  refine so_call rfl rfl rfl ((Keep_S (F := pt g5 t_api_Event (evC e) :: F) hsi.ok ho hsi.mK hd (up he (ent_keep 1 [] rfl rfl)) hm).ent (ent_keep 5 [1, 2, 3, 4, 0] rfl rfl)) ?_
  rw [hk]
  rintro _ F2 ⟨rfl, hF2⟩
  obtain ⟨K2, hK2, rfl⟩ : ∃ K2, ((keepB own R K e).2 = false ∧ K2 = K ∨ (keepB own R K e).2 = true ∧ ∃ y, nE y = nE e ∧ K2 = K ++ [y]) ∧ F2 = stM g gr gm own R K2 (pt g5 t_api_Event (evC e) :: F) := by
    rcases hF2 with ⟨h1, rfl⟩ | ⟨h1, y, hy, rfl⟩
    · exact ⟨_, .inl ⟨h1, rfl⟩, rfl⟩
    · exact ⟨_, .inr ⟨h1, y, hy, rfl⟩, rfl⟩
  clear hF2
  ((iterate 5 refine so_1 rfl ?_); refine so_nil ?_; refine sn_then ?_; refine sw_seq ?_; refine sw_region ?_; (iterate 4 refine so_1 rfl ?_))
  refine so_know 20 (.bool true) rfl (by cases want <;> rfl) ?_
  ((iterate 5 refine so_1 rfl ?_); refine so_nil ?_; refine sn_then ?_; refine sw_ret ?_)
  refine sn_ret rfl (.tmp rfl .nil) (ent_keep 5 [0, 1, 2, 3] rfl rfl) ?_
  refine ⟨congrArg Value.bool (decide_eq_true rfl), ?_⟩
  rcases hK2 with ⟨q, rfl⟩ | ⟨q, y, hy, rfl⟩
  · exact .inl ⟨q, rfl⟩
  · exact .inr ⟨q, y, hy, rfl⟩
set_option maxRecDepth 20000 in
set_option maxHeartbeats 2000000 in
theorem gives_S {r most : Int} {vw : Value} {M : List Ev} (hsi : StI R K L) (hn : K.length ≤ 100000) (h : ∀ w, Sat b F w → VL (Value.int .i64) w v xs) (hw : ∀ w, Sat b F w → EL w vw M) (hT : giveT R (L.map nE) r xs most = (M.map nE, 0)) :
    SC Try.prog n_entrepotlaw24_gives [.pointer (some ⟨g, 0, none⟩), .int .i64 r, .int .i64 most, v, vw] b (stM g gr gm own R K F) (fun u F' => u = .bool true ∧ F' = stM g gr gm own R K F) := by
  refine enterS F_entrepotlaw24_gives rfl rfl rfl ?_
  (refine sw_seq ?_; refine sw_region ?_; refine so_1 rfl ?_; refine so_nil ?_; refine sn_then ?_; refine sw_seq ?_; refine sw_region ?_; (iterate 4 refine so_1 rfl ?_))
  refine so_call rfl rfl rfl (Give_S hsi.ok hsi.mK hn hsi.srt hsi.prm h) ?_
  rintro _ _ ⟨gv, D, rfl, hD, rfl⟩
  have hsub := giveT_sub R (L.map nE) r xs most
  rw [hT] at hD hsub ⊢
  have hDg : ∀ e ∈ D, EvG e := evG_sub hsi.gL fun y hy => by rw [hD] at hy; exact hsub.mem hy
  ((iterate 5 refine so_1 rfl ?_); refine so_nil ?_; refine sn_then ?_; refine sw_seq ?_; refine sw_region ?_; (iterate 5 refine so_1 rfl ?_))
  refine so_callE rfl rfl rfl (SameEvents_S hD (rEs_el (k := 0) (j := 1) rfl rfl) (up hw (ent_keep 6 [] rfl rfl)) (fun e he => (hDg e he).o)) ?_
  ((iterate 2 refine so_1 rfl ?_); refine so_nil ?_; refine sn_then ?_; refine sw_ret ?_)
  refine sn_ret rfl (.tmp rfl .nil) (ent_keep 2 [] rfl rfl) ?_
  exact ⟨rfl, rfl⟩
theorem rows3 : RowsOk R0 := rows_zero (n := 3) (by decide) (by decide)
set_option maxRecDepth 20000 in
set_option maxHeartbeats 4000000 in
theorem first_S : SC Try.prog n_entrepotlaw24_first [] b F (fun u F' => ∃ g gr gm K, u = .pointer (some ⟨g, 0, none⟩) ∧ StI R1 K [eA, fA] ∧ K.length = 2 ∧ F' = stM g gr gm 1 R1 K F) := by
  have s1 : seenT R0 1 [1, 1, 0] = (0, R1) := by decide +kernel
  have k1 : keepB 1 R1 [] eA = ((true, 0), true) := by decide +kernel
  have k2 : keepB 1 R1 [eA] fA = ((true, 0), true) := by decide +kernel
  have hR1 : RowsOk R1 := by have := seenT_ok rows3 1 [1, 1, 0]; rw [s1] at this; exact this
  refine enterS F_entrepotlaw24_first rfl rfl rfl ?_
  (refine sw_seq ?_; refine sw_region ?_; refine so_1 rfl ?_; refine so_nil ?_; refine sn_then ?_; refine sw_seq ?_; refine sw_region ?_)
  refine so_call rfl rfl rfl (mNew_S (n := 3) (own := 1) (by decide)) ?_
  rintro _ _ ⟨g, gr, gm, rfl, rfl⟩
  refine so_ent (G := stM g gr gm 1 R0 [] F) (Ent.refl _) ?_
  ((iterate 5 refine so_1 rfl ?_); refine so_nil ?_; refine sn_then ?_; (iterate 2 refine sw_seq ?_); refine sw_region ?_; (iterate 8 refine so_1 rfl ?_))
  refine so_lit [.int .i64 1, .int .i64 1, .int .i64 0] rfl rfl rfl rfl rfl rfl rfl rfl rfl fun gl1 => ?_
  refine so_call rfl rfl rfl ((Seen_S (F := pt gl1 t_int (ints [1, 1, 0]) :: F) rows3 (pt_vl (k := 3) (j := 0) rfl rfl (by decide))).ent (ent_keep 5 [1, 2, 3, 4, 0] rfl rfl)) ?_
  rw [s1]
  rintro _ _ ⟨rfl, rfl⟩
  ((iterate 4 refine so_1 rfl ?_))
  refine so_lit [.int .i64 0, .int .i64 0, .int .i64 0] rfl rfl rfl rfl rfl rfl rfl rfl rfl fun gl2 => ?_
  refine so_callE rfl rfl rfl (made_S (deps := [0, 0, 0])) ?_
  have k1' : keepB 1 R1 [] (mkA 1 1 (.slice (some ⟨gl2, 0, none⟩) 3 3) [0, 0, 0]) = ((true, 0), true) := k1
  refine so_call rfl rfl rfl ((keeps_S (F := pt gl2 t_int (ints [0, 0, 0]) :: pt gl1 t_int (ints [1, 1, 0]) :: F) (K := []) (L := []) (.none hR1) (by decide) (mkA_g (by decide) (by decide) (by decide)).dk (mkA_er (pt_vl (k := 3) (j := 0) rfl rfl (by decide))) (mkA_g (by decide) (by decide) (by decide)).m (by rw [k1'])).ent (ent_keep 6 [1, 2, 3, 4, 0, 5] rfl rfl)) ?_
  rw [k1']
  rintro _ _ ⟨rfl, hF⟩
  rcases hF with ⟨hq, _⟩ | ⟨_, y, hy, rfl⟩
  · cases hq
  have hs1 : StI R1 [y] [eA] := (StI.none hR1).kept (e := eA) (mkA_g (by decide) (by decide) (by decide)) rfl hy (isSort_of_lt (by simp) (.refl _))
  ((iterate 4 refine so_1 rfl ?_))
  refine so_lit [.int .i64 1, .int .i64 0, .int .i64 0] rfl rfl rfl rfl rfl rfl rfl rfl rfl fun gl3 => ?_
  refine so_callE rfl rfl rfl (made_S (deps := [1, 0, 0])) ?_
  have k2' : keepB 1 R1 [y] (mkA 2 1 (.slice (some ⟨gl3, 0, none⟩) 3 3) [1, 0, 0]) = ((true, 0), true) := (hs1.keep 1 _).symm.trans k2
  refine so_call rfl rfl rfl ((keeps_S (F := pt gl3 t_int (ints [1, 0, 0]) :: pt gl2 t_int (ints [0, 0, 0]) :: pt gl1 t_int (ints [1, 1, 0]) :: F) (K := [y]) hs1 (by decide) (mkA_g (by decide) (by decide) (by decide)).dk (mkA_er (pt_vl (k := 3) (j := 0) rfl rfl (by decide))) (mkA_g (by decide) (by decide) (by decide)).m (by rw [k2'])).ent (ent_keep 7 [1, 2, 3, 4, 0, 5, 6] rfl rfl)) ?_
  rw [k2']
  rintro _ _ ⟨rfl, hF⟩
  rcases hF with ⟨hq, _⟩ | ⟨_, y2, hy2, rfl⟩
  · cases hq
  have hs2 : StI R1 ([y] ++ [y2]) [eA, fA] := hs1.kept (e := fA) (mkA_g (by decide) (by decide) (by decide)) (keepB_new (own := 1) (R := R1) (e := fA) (congrArg Prod.snd k2')) hy2 (isSort_of_lt (by decide +kernel) (.refl _))
  ((iterate 2 refine so_1 rfl ?_); refine so_nil ?_; refine sn_then ?_; refine sw_cond_f rfl ?_; refine sw_skip ?_; refine sn_then ?_; refine sw_seq ?_; refine sw_region ?_; (iterate 2 refine so_1 rfl ?_); refine so_nil ?_; refine sn_then ?_; refine sw_ret ?_)
  refine sn_ret rfl (.tmp rfl .nil) (ent_keep 7 [0, 1, 2, 3] rfl rfl) ?_
  exact ⟨g, gr, gm, _, rfl, hs2, rfl, rfl⟩
end
end Go.Proofs.Ytajbpdmhpcpkgaa
/- Who has what, part twenty-four: awake, StableKnown. Conditions: none. -/
namespace Go.Proofs.Ytajbpdmhpcpkgaa
open Go Go.Eng Go.RowKit Go.WideMaps

section
variable {b : World} {F : List SP}
set_option maxRecDepth 20000 in
set_option maxHeartbeats 4000000 in
theorem awake_S : SC Try.prog n_entrepotlaw24_awake [] b F (fun u F' => u = .bool true ∧ F' = F) := by
  have b1 : boundL R1 = [0, 0, 0] := by decide +kernel
  have g1 : giveT R1 ([eA, fA].map nE) 2 [1, 0, 0] 8 = ([fA], 0) := by kernel_rfl
  have s2 : seenT R1 2 [1, 1, 0] = (0, R2) := by decide +kernel
  have s3 : seenT R2 3 [1, 0, 0] = (0, R3) := by decide +kernel
  have f1 : ([eA, fA].map nE).filter (stB R3) = [eA] := by kernel_rfl
  have f2 : [eA, fA].filter (fun e => !stB R3 e) = [fA] := by kernel_rfl
  refine enterS F_entrepotlaw24_awake rfl rfl rfl ?_
  (refine sw_seq ?_; refine sw_region ?_; refine so_1 rfl ?_; refine so_nil ?_; refine sn_then ?_; refine sw_seq ?_; refine sw_region ?_)
  refine so_call rfl rfl rfl (first_S) ?_
  rintro _ _ ⟨g, gr, gm, K, rfl, hsi, hKl, rfl⟩
  (refine so_1 rfl ?_; refine so_nil ?_; refine sn_then ?_; (iterate 2 refine sw_seq ?_); refine sw_region ?_; (iterate 4 refine so_1 rfl ?_))
  refine so_call rfl rfl rfl (Bound_S hsi.ok) ?_
  rintro bv _ rfl
  rw [b1]
  refine so_lit [.int .i64 0, .int .i64 0, .int .i64 0] rfl rfl rfl rfl rfl rfl rfl rfl rfl fun gl1 => ?_
  refine so_callE rfl rfl rfl (SameInts_S (ys := [0, 0, 0]) (vlZ (k := 1) rfl) (pt_vl (k := 3) (j := 0) rfl rfl (by decide))) ?_
  rw [decide_eq_true (rfl : ([0, 0, 0] : List Int) = [0, 0, 0])]
  refine so_ent (G := stM g gr gm 1 R1 K F) (ent_keep 6 [2, 3, 4, 5] rfl rfl) ?_
  ((iterate 4 refine so_1 rfl ?_))
  refine so_lit [.int .i64 1, .int .i64 0, .int .i64 0] rfl rfl rfl rfl rfl rfl rfl rfl rfl fun gl2 => ?_
  refine so_lit [.int .i64 1, .int .i64 0, .int .i64 0] rfl rfl rfl rfl rfl rfl rfl rfl rfl fun gl3 => ?_
  refine so_callE rfl rfl rfl (made_S (deps := [1, 0, 0])) ?_
  refine so_lit1 rfl rfl rfl rfl rfl rfl rfl rfl (by decide) fun gl4 => ?_
  skip
  refine so_call rfl rfl rfl ((gives_S (F := pt gl4 t_api_Event (evC (mkA 2 1 (.slice (some ⟨gl3, 0, none⟩) 3 3) [1, 0, 0])) :: pt gl3 t_int (ints [1, 0, 0]) :: pt gl2 t_int (ints [1, 0, 0]) :: F) (M := [mkA 2 1 (.slice (some ⟨gl3, 0, none⟩) 3 3) [1, 0, 0]]) (xs := [1, 0, 0]) hsi (by omega) (pt_vl (k := 3) (j := 2) rfl rfl (by decide)) (pt_el (j := 0) rfl rfl (mkA_er (pt_vl (k := 3) (j := 1) rfl rfl (by decide)))) g1).ent (ent_keep 7 [3, 4, 5, 6, 0, 1, 2] rfl rfl)) ?_
  rintro _ _ ⟨rfl, rfl⟩
  ((iterate 2 refine so_1 rfl ?_); refine so_nil ?_; refine sn_then ?_; refine sw_cond_f rfl ?_; refine sw_skip ?_; refine sn_then ?_; refine sw_seq ?_; refine sw_region ?_; refine so_1 rfl ?_)
  refine so_ent (G := stM g gr gm 1 R1 K F) (ent_keep 7 [0, 1, 2, 3] rfl rfl) ?_
  refine so_lit [.int .i64 1, .int .i64 1, .int .i64 0] rfl rfl rfl rfl rfl rfl rfl rfl rfl fun gl5 => ?_
  refine so_call rfl rfl rfl ((Seen_S (F := pt gl5 t_int (ints [1, 1, 0]) :: F) hsi.ok (pt_vl (k := 3) (j := 0) rfl rfl (by decide))).ent (ent_keep 5 [1, 2, 3, 4, 0] rfl rfl)) ?_
  rw [s2]
  rintro _ _ ⟨rfl, rfl⟩
  have hR2 : RowsOk R2 := by have := seenT_ok hsi.ok 2 [1, 1, 0]; rw [s2] at this; exact this
  have hR3 : RowsOk R3 := by have := seenT_ok hR2 3 [1, 0, 0]; rw [s3] at this; exact this
  ((iterate 3 refine so_1 rfl ?_))
  refine so_ent (G := stM g gr gm 1 R2 K F) (ent_keep 5 [0, 1, 2, 3] rfl rfl) ?_
  refine so_lit [.int .i64 1, .int .i64 0, .int .i64 0] rfl rfl rfl rfl rfl rfl rfl rfl rfl fun gl6 => ?_
  refine so_call rfl rfl rfl ((Seen_S (F := pt gl6 t_int (ints [1, 0, 0]) :: F) hR2 (pt_vl (k := 3) (j := 0) rfl rfl (by decide))).ent (ent_keep 5 [1, 2, 3, 4, 0] rfl rfl)) ?_
  rw [s3]
  rintro _ _ ⟨rfl, rfl⟩
  have hs3 := hsi.rows hR3
  ((iterate 4 refine so_1 rfl ?_))
  refine so_ent (G := stM g gr gm 1 R3 K F) (ent_keep 5 [0, 1, 2, 3] rfl rfl) ?_
  refine so_call rfl rfl rfl (mCollect_S hs3.ok hs3.mK hs3.dk hs3.nd (by omega) hs3.srt hs3.prm) ?_
  rintro va _ ⟨G, K2, hG, hK2, rfl⟩
  have hs4 := hs3.rest (p := fun e => !stB R3 e) (fun e => rfl) hK2
  rw [f1] at hG
  rw [f2] at hs4
  have hK2l : K2.length ≤ 2 := by have := hs4.len; simp at this; omega
  have hGg : ∀ e ∈ G, EvG e := evG_sub (l := [eA]) (fun e he => by rw [List.mem_singleton.1 he]; exact mkA_g (by decide) (by decide) (by decide)) fun y hy => by rw [hG] at hy; exact hy
  refine so_lit [.int .i64 0, .int .i64 0, .int .i64 0] rfl rfl rfl rfl rfl rfl rfl rfl rfl fun gl7 => ?_
  refine so_callE rfl rfl rfl (made_S (deps := [0, 0, 0])) ?_
  refine so_lit1 rfl rfl rfl rfl rfl rfl rfl rfl (by decide) fun gl8 => ?_
  refine so_callE rfl rfl rfl (SameEvents_S (m := [mkA 1 1 (.slice (some ⟨gl7, 0, none⟩) 3 3) [0, 0, 0]]) hG (rEs_el (k := 2) (j := 3) rfl rfl) (pt_el (j := 0) rfl rfl (mkA_er (pt_vl (k := 3) (j := 1) rfl rfl (by decide)))) (fun e he => (hGg e he).o)) ?_
  refine so_ent (G := stM g gr gm 1 R3 K2 F) (ent_keep 8 [4, 5, 6, 7] rfl rfl) ?_
  ((iterate 3 refine so_1 rfl ?_))
  refine so_call rfl rfl rfl (Kept_S hs4.ok hs4.mK (by omega) hs4.srt hs4.prm) ?_
  rintro vc _ ⟨D, hD, rfl⟩
  have hDg : ∀ e ∈ D, EvG e := evG_sub (l := [fA]) (fun e he => by rw [List.mem_singleton.1 he]; exact mkA_g (by decide) (by decide) (by decide)) fun y hy => by rw [hD] at hy; exact hy
  refine so_lit [.int .i64 1, .int .i64 0, .int .i64 0] rfl rfl rfl rfl rfl rfl rfl rfl rfl fun gl9 => ?_
  refine so_callE rfl rfl rfl (made_S (deps := [1, 0, 0])) ?_
  refine so_lit1 rfl rfl rfl rfl rfl rfl rfl rfl (by decide) fun gl10 => ?_
  refine so_callE rfl rfl rfl (SameEvents_S (m := [mkA 2 1 (.slice (some ⟨gl9, 0, none⟩) 3 3) [1, 0, 0]]) hD (rEs_el (k := 2) (j := 3) rfl rfl) (pt_el (j := 0) rfl rfl (mkA_er (pt_vl (k := 3) (j := 1) rfl rfl (by decide)))) (fun e he => (hDg e he).o)) ?_
  ((iterate 2 refine so_1 rfl ?_); refine so_nil ?_; refine sn_then ?_; refine sw_ret ?_)
  refine sn_ret rfl (.tmp rfl .nil) (ent_keep 8 [] rfl rfl) ?_
  exact ⟨rfl, rfl⟩
end
end Go.Proofs.Ytajbpdmhpcpkgaa
/- Who has what, part twenty-six: StableActs. Conditions: none. -/
namespace Go.Proofs.Ytajbpdmhpcpkgaa
open Go Go.Eng Go.RowKit Go.WideMaps

abbrev rdAct : Rdg (Int × Int × Int × (Value × List Int) × ((Int × Int) × (Value × List Int) × Int × ByteArray × ByteArray × List Int × (Value × List (List Int)))) := rdN 1 (rdI .i64) (rdN 1 (rdI .i64) (rdN 1 (rdI .i64) (rdN 1 (rdL 1 (rdI .i64)) rdEv)))
def actOf (x : Int × Int × Int × (Value × List Int) × ((Int × Int) × (Value × List Int) × Int × ByteArray × ByteArray × List Int × (Value × List (List Int)))) : Ac := ⟨x.1, x.2.1, x.2.2.1, x.2.2.2.1.1, x.2.2.2.1.2, evOf x.2.2.2.2⟩
structure LAw (W : World) (v : Value) (l : List Ac) : Prop where
  la : LAs W v l
  ew : ∀ a ∈ l, EW a.e
theorem las_of_rd {W : World} {v : Value} {x : Value × List _} (h : rdL 43 rdAct W [v] x) : LAw W v (x.2.map actOf) := by
  obtain ⟨h1, h2, h3⟩ := rdL_flat (g := actOf) (f := acC) (p := fun a => VL (Value.int .i64) W a.v a.xs ∧ EW a.e ∧ ER W a.e) (fun cs x hx => by
    obtain ⟨⟨hx1, _⟩, ⟨hx2, _⟩, ⟨hx3, _⟩, hx4, hx5⟩ := hx
    obtain ⟨h1, h2, _⟩ := rdI_list hx4
    obtain ⟨h3, h4, h5⟩ := ev_of_rd hx5
    exact ⟨cut_eq hx1 (cut_eq hx2 (cut_eq hx3 (cut_eq h1 h3))), h2, h4, h5⟩) h
  simp only [List.cons.injEq, and_true] at h1
  subst h1
  exact ⟨⟨h2, fun a ha => (h3 a ha).1, fun a ha => (h3 a ha).2.2⟩, fun a ha => (h3 a ha).2.1⟩
section
variable {b : World} {F : List SP}
theorem mNew_badI {n own : Int} (h : ¬ (1 ≤ n ∧ n ≤ 16 ∧ 1 ≤ own ∧ own ≤ n)) : SC Try.prog n_stable_New [.int .i64 n, .int .i64 own] b F (fun u F' => u = .tuple ⟨[.pointer none, .int .i64 3]⟩ ∧ F' = F) := by
  by_cases h1 : n < 1 ∨ 16 < n
  · exact mNew_bad2 h1
  · obtain ⟨m, rfl⟩ : ∃ m : Nat, n = m := ⟨n.toNat, by omega⟩
    refine mNew_bad ?_
    cases hb : newB m own with
    | false => rfl
    | true => exact absurd (newB_iff.1 hb) fun q => h ⟨by omega, by omega, q.2.2.1, q.2.2.2⟩
set_option maxRecDepth 20000 in
set_option maxHeartbeats 4000000 in
theorem walk_StableActs {W : World} {n own : Int} {v : Value} {L : List Ac} (h : LAw W v L) : Calls Try.prog n_entrepotlaw24_StableActs #[.int .i64 n, .int .i64 own, v] W (fun e w' => e = .returned (.bool true) ∧ Ext W w') := by
  refine law_of (args := [.int .i64 n, .int .i64 own, v]) ?_
  have hl : ∀ {F : List SP} {k : Nat}, nth F k = some (Is W) → ∀ w, Sat W F w → LAs w v L := fun hk w H => h.la.ext (H.is hk)
  obtain ⟨A0, c0, rfl, _, _, _, k4, _⟩ := sl_form h.la.sl
  refine enterS F_entrepotlaw24_StableActs rfl rfl rfl ?_
  (refine sw_seq ?_; refine sw_region ?_; refine so_1 rfl ?_; refine so_nil ?_; refine sn_then ?_; (iterate 2 refine sw_seq ?_); refine sw_region ?_; refine so_1 rfl ?_)
  refine so_call rfl rfl rfl (long_S (hl (k := 0) rfl) (fun a ha => (h.ew a ha).l32)) ?_
  rintro _ _ ⟨q, hq, rfl, rfl⟩
  cases q with
  | true =>
    (refine so_nil ?_; refine sn_then ?_; refine sw_cond_t rfl ?_; refine sw_seq ?_; refine sw_region ?_)
    refine so_call rfl rfl rfl (awake_S) ?_
    rintro _ _ ⟨rfl, rfl⟩
    (refine so_1 rfl ?_; refine so_nil ?_; refine sn_then ?_; refine sw_ret ?_; refine sn_then_ret ?_)
    refine sn_ret rfl (.tmp rfl .nil) (Ent.refl _) ?_
    exact ⟨rfl, rfl⟩
  | false =>
  obtain ⟨h30, hok⟩ := hq rfl
  (refine so_nil ?_; refine sn_then ?_; refine sw_cond_f rfl ?_; refine sw_skip ?_; refine sn_then ?_; refine sw_seq ?_; refine sw_region ?_; (iterate 2 refine so_1 rfl ?_))
  by_cases hb : 1 ≤ n ∧ n ≤ 16 ∧ 1 ≤ own ∧ own ≤ n
  · obtain ⟨m, rfl⟩ : ∃ m : Nat, n = m := ⟨n.toNat, by omega⟩
    have hnb : newB m own = true := newB_iff.2 ⟨by omega, by omega, hb.2.2.1, hb.2.2.2⟩
    refine so_call rfl rfl rfl (mNew_S hnb) ?_
    rintro _ _ ⟨g, gr, gm, rfl, rfl⟩
    ((iterate 5 refine so_1 rfl ?_); refine so_nil ?_; refine sn_then ?_; refine sw_seq ?_; refine sw_region ?_; (iterate 2 refine so_1 rfl ?_))
    refine so_call rfl rfl rfl (rNew_S hnb) ?_
    rintro _ _ ⟨h', Ar, cr, LR, hLR, rfl, rfl⟩
    have hrz := rows_zero (n := m) (by omega) (by omega)
    rw [← hLR] at hrz ⊢
    have hLl : LR.length = m := by have := congrArg List.length hLR; rwa [List.length_map, List.length_replicate] at this
    ((iterate 5 refine so_1 rfl ?_); refine so_nil ?_; refine sn_then ?_; (iterate 2 refine sw_seq ?_); refine sw_region ?_; (iterate 10 refine so_1 rfl ?_); refine so_nil ?_; refine sn_then ?_; refine sw_cond_f rfl ?_; refine sw_skip ?_; refine sn_then ?_; refine sw_seq ?_; refine sw_region ?_; (iterate 6 refine so_1 rfl ?_))
    refine so_ent (G := stT g gr gm h' own Ar cr m ⟨[], [], LR, none, 0⟩ [Is W]) (ent_keep 9 [5, 6, 7, 8, 0, 1, 2, 3, 4] rfl rfl) ?_
    refine so_call rfl rfl rfl (acts_S (s0 := ⟨[], [], LR, none, 0⟩) (hl (k := 0) rfl) h.ew hok h30 (regB_iff.2 ⟨hb.2.2.1, hb.2.2.2⟩) ⟨.none hrz, hLl, by simp⟩) ?_
    rintro _ _ ⟨rfl, rfl⟩
    ((iterate 2 refine so_1 rfl ?_))
    refine so_call rfl rfl rfl (awake_S) ?_
    rintro _ _ ⟨rfl, rfl⟩
    ((iterate 2 refine so_1 rfl ?_); refine so_nil ?_; refine sn_then ?_; refine sw_ret ?_)
    refine sn_ret rfl (.tmp rfl .nil) (Ent.refl _) ?_
    exact ⟨rfl, rfl⟩
  · refine so_call rfl rfl rfl (mNew_badI hb) ?_
    rintro _ _ ⟨rfl, rfl⟩
    ((iterate 5 refine so_1 rfl ?_); refine so_nil ?_; refine sn_then ?_; refine sw_seq ?_; refine sw_region ?_; (iterate 2 refine so_1 rfl ?_))
    refine so_call rfl rfl rfl (rNew_bad hb) ?_
    rintro _ _ ⟨rfl, rfl⟩
    ((iterate 5 refine so_1 rfl ?_); refine so_nil ?_; refine sn_then ?_; (iterate 2 refine sw_seq ?_); refine sw_region ?_; (iterate 10 refine so_1 rfl ?_); refine so_nil ?_; refine sn_then ?_; refine sw_cond_f rfl ?_; refine sw_skip ?_; refine sn_then ?_; refine sw_seq ?_; refine sw_region ?_; (iterate 9 refine so_1 rfl ?_))
    refine so_call rfl rfl rfl (awake_S) ?_
    rintro _ _ ⟨rfl, rfl⟩
    ((iterate 2 refine so_1 rfl ?_); refine so_nil ?_; refine sn_then ?_; refine sw_ret ?_)
    refine sn_ret rfl (.tmp rfl .nil) (Ent.refl _) ?_
    exact ⟨rfl, rfl⟩
end
end Go.Proofs.Ytajbpdmhpcpkgaa
/- Who has what, part twenty-seven: StableLoads. Conditions: none. -/
namespace Go.Proofs.Ytajbpdmhpcpkgaa
open Go Go.Eng Go.RowKit Go.WideMaps

theorem evErr_x {R : List (List Int)} {r0 : List Int} {K : List Ev} {x y : Ev} (h : nE x = nE y) : evErr R r0 K x = evErr R r0 K y := by
  obtain ⟨dv, rv, rfl⟩ := nE_eq h
  rfl
theorem ldErr_nE {R : List (List Int)} {r0 : List Int} : ∀ (l m K J : List Ev), l.map nE = m.map nE → K.map nE = J.map nE → ldErr R r0 K l = ldErr R r0 J m
  | [], [], _, _, _, _ => rfl
  | [], _ :: _, _, _, h, _ => by simp at h
  | _ :: _, [], _, _, h, _ => by simp at h
  | x :: l, y :: m, K, J, h, hK => by
    rw [List.map_cons, List.map_cons, List.cons.injEq] at h
    have e : evErr R r0 K x = evErr R r0 J y := (evErr_nE hK).trans (evErr_x h.1)
    rw [ldErr, ldErr, e, ldErr_nE l m (K ++ [x]) (J ++ [y]) h.2 (by rw [List.map_append, List.map_append, hK, List.map_singleton, List.map_singleton, h.1])]
theorem loadErr_nE {R : List (List Int)} {own : Int} {l m : List Ev} (h : l.map nE = m.map nE) : loadErr own R l = loadErr own R m := by
  unfold loadErr
  rw [ldErr_nE l m [] [] h rfl]
abbrev rdRow : Rdg (Value × List Int) := rdL 1 (rdI .i64)
def rowOf (x : Value × List Int) : Value × List Int := x
theorem rl_of_rd {W : World} {v : Value} {x : Value × List _} (h : rdL 1 rdRow W [v] x) : RL W v (x.2.map rowOf) := by
  obtain ⟨h1, h2, h3⟩ := rdL_flat (g := rowOf) (f := fun p => [p.1]) (p := fun p => VL (Value.int .i64) W p.1 p.2) (fun cs x hx => by
    obtain ⟨h1, h2, _⟩ := rdI_list hx
    exact ⟨h1, h2⟩) h
  simp only [List.cons.injEq, and_true] at h1
  subst h1
  have e : ∀ l : List (Value × List Int), flC (fun p : Value × List Int => [p.1]) l = l.map Prod.fst := fun l => by
    induction l with
    | nil => rfl
    | cons x l ih => simp only [flC, ih]; rfl
  rw [e] at h2
  exact ⟨h2, h3⟩
theorem RL.ext {w w' : World} {v : Value} {l : List (Value × List Int)} (h : RL w v l) (x : Ext w w') : RL w' v l := ⟨h.sl.ext x, fun m hm => (h.vl m hm).ext x⟩
theorem evG_of {e : Ev} (h : EW e) (hl : LE e) : EvG e := ⟨⟨h.l32, by have := hl.1; omega, by have := hl.2.1; omega⟩, h.r32, h.dot⟩
section
variable {b : World} {F : List SP}
set_option maxRecDepth 20000 in
set_option maxHeartbeats 8000000 in
theorem walk_StableLoads {W : World} {own : Int} {rv lv v : Value} {LR : List (Value × List Int)} {l : List Ev} {L : List Ac} (hr : RL W rv LR) (hE : EAs W lv l) (h : LAw W v L) : Calls Try.prog n_entrepotlaw24_StableLoads #[.int .i64 own, rv, lv, v] W (fun e w' => e = .returned (.bool true) ∧ Ext W w') := by
  refine law_of (args := [.int .i64 own, rv, lv, v]) ?_
  have hl : ∀ {F : List SP} {k : Nat}, nth F k = some (Is W) → ∀ w, Sat W F w → LAs w v L := fun hk w H => h.la.ext (H.is hk)
  have hrr : ∀ {F : List SP} {k : Nat}, nth F k = some (Is W) → ∀ w, Sat W F w → RL w rv LR := fun hk w H => hr.ext (H.is hk)
  have hll : ∀ {F : List SP} {k : Nat}, nth F k = some (Is W) → ∀ w, Sat W F w → EL w lv l := fun hk w H => hE.el.ext (H.is hk)
  obtain ⟨A0, c0, rfl, _, _, _, k4, _⟩ := sl_form h.la.sl
  obtain ⟨A1, c1, rfl, _, _, _, k5, _⟩ := sl_form hr.sl
  obtain ⟨A2, c2, rfl, _, _, _, k6, _⟩ := sl_form hE.el.sl
  refine enterS F_entrepotlaw24_StableLoads rfl rfl rfl ?_
  (refine sw_seq ?_; refine sw_region ?_; refine so_1 rfl ?_; refine so_nil ?_; refine sn_then ?_; (iterate 2 refine sw_seq ?_); refine sw_region ?_; refine so_1 rfl ?_)
  refine so_call rfl rfl rfl (LongRows_S (hrr (k := 0) rfl)) ?_
  rintro _ _ ⟨q1, hq1, rfl, rfl⟩
  cases q1 with
  | true =>
    ((iterate 8 refine so_1 rfl ?_); refine so_nil ?_; refine sn_then ?_; refine sw_cond_t rfl ?_; refine sw_seq ?_; refine sw_region ?_)
    refine so_call rfl rfl rfl (awake_S) ?_
    rintro _ _ ⟨rfl, rfl⟩
    (refine so_1 rfl ?_; refine so_nil ?_; refine sn_then ?_; refine sw_ret ?_; refine sn_then_ret ?_)
    refine sn_ret rfl (.tmp rfl .nil) (Ent.refl _) ?_
    exact ⟨rfl, rfl⟩
  | false =>
  obtain ⟨hR20, hRl⟩ := hq1 rfl
  ((iterate 2 refine so_1 rfl ?_))
  refine so_call rfl rfl rfl (LongEvents_S (many := 12) (hll (k := 0) rfl) (fun e he => (hE.ew e he).l32) (by decide)) ?_
  rintro _ _ ⟨q2, hq2, rfl, rfl⟩
  cases q2 with
  | true =>
    ((iterate 5 refine so_1 rfl ?_); refine so_nil ?_; refine sn_then ?_; refine sw_cond_t rfl ?_; refine sw_seq ?_; refine sw_region ?_)
    refine so_call rfl rfl rfl (awake_S) ?_
    rintro _ _ ⟨rfl, rfl⟩
    (refine so_1 rfl ?_; refine so_nil ?_; refine sn_then ?_; refine sw_ret ?_; refine sn_then_ret ?_)
    refine sn_ret rfl (.tmp rfl .nil) (Ent.refl _) ?_
    exact ⟨rfl, rfl⟩
  | false =>
  obtain ⟨hl12, hlE⟩ := hq2 rfl
  ((iterate 3 refine so_1 rfl ?_))
  refine so_call rfl rfl rfl (long_S (hl (k := 0) rfl) (fun a ha => (h.ew a ha).l32)) ?_
  rintro _ _ ⟨q, hq, rfl, rfl⟩
  cases q with
  | true =>
    (refine so_1 rfl ?_; refine so_nil ?_; refine sn_then ?_; refine sw_cond_t rfl ?_; refine sw_seq ?_; refine sw_region ?_)
    refine so_call rfl rfl rfl (awake_S) ?_
    rintro _ _ ⟨rfl, rfl⟩
    (refine so_1 rfl ?_; refine so_nil ?_; refine sn_then ?_; refine sw_ret ?_; refine sn_then_ret ?_)
    refine sn_ret rfl (.tmp rfl .nil) (Ent.refl _) ?_
    exact ⟨rfl, rfl⟩
  | false =>
  obtain ⟨h30, hok⟩ := hq rfl
  have hlg : ∀ e ∈ l, EvG e := fun e he => evG_of (hE.ew e he) (hlE e he)
  (refine so_1 rfl ?_; refine so_nil ?_; refine sn_then ?_; refine sw_cond_f rfl ?_; refine sw_skip ?_; refine sn_then ?_; refine sw_seq ?_; refine sw_region ?_; refine so_1 rfl ?_)
  refine so_call rfl rfl rfl (CopyRows_S (hrr (k := 0) rfl) (by omega) (fun p hp => by have := hRl p hp; omega)) ?_
  rintro va _ ⟨DR, hDR, rfl⟩
  (refine so_1 rfl ?_)
  refine so_call rfl rfl rfl (CopyEvents_S (hll (k := 2) rfl) (fun e he => (hlg e he).m) (by omega)) ?_
  rintro vb _ ⟨D, hD, rfl⟩
  have hDg : ∀ e ∈ D, EvG e := evG_map hlg hD
  have hDl : D.length = l.length := by have := congrArg List.length hD; rwa [List.length_map, List.length_map] at this
  have hDRl : DR.length = LR.length := by have := congrArg List.length hDR; rwa [List.length_map, List.length_map] at this
  have hD20 : ∀ p ∈ DR, p.2.length ≤ 1000000 := fun p hp => by
    have : p.2 ∈ LR.map Prod.snd := by rw [← hDR]; exact List.mem_map_of_mem hp
    obtain ⟨q, hq, hqe⟩ := List.mem_map.1 this
    have := hRl q hq
    rw [← hqe]; omega
  ((iterate 2 refine so_1 rfl ?_); refine so_nil ?_; refine sn_then ?_; refine sw_seq ?_; refine sw_region ?_; (iterate 3 refine so_1 rfl ?_))
  refine so_call rfl rfl rfl (mLoad_S (own := own) (vF_rl (j := 2) (k := 3) rfl rfl) (rEs_el (k := 0) (j := 1) rfl rfl) (fun e he => (hDg e he).m) (fun e he => (hDg e he).dk) (by omega)) ?_
  rw [hDR, loadErr_nE hD]
  rintro u1 F1 hres1
  rcases hres1 with ⟨he, rfl, rfl⟩ | ⟨he, g, gr, gm, K, rfl, hK, rfl⟩
  · ((iterate 5 refine so_1 rfl ?_); refine so_nil ?_; refine sn_then ?_; refine sw_seq ?_; refine sw_region ?_; (iterate 3 refine so_1 rfl ?_))
    refine so_call rfl rfl rfl (rLoad_S (own := own) (hrr (k := 4) rfl) (hll (k := 4) rfl) (fun e he => (hlg e he).m) (by omega)) ?_
    rintro u2 F2 hres2
    obtain ⟨rfl, rfl⟩ : u2 = .tuple ⟨[.pointer none, .int .i64 (loadErr own (LR.map Prod.snd) l)]⟩ ∧ F2 = [rEs vb D, all (evF D), rRs va DR, all (vF DR), Is W] := by
      rcases hres2 with ⟨_, h1, h2⟩ | ⟨h0, _⟩
      · exact ⟨h1, h2⟩
      · exact absurd h0 he
    clear hres2
    generalize loadErr own (LR.map Prod.snd) l = er at *
    ((iterate 5 refine so_1 rfl ?_); refine so_nil ?_; refine sn_then ?_; (iterate 2 refine sw_seq ?_); refine sw_region ?_; (iterate 4 refine so_1 rfl ?_))
    refine so_know 47 (.bool false) rfl (by simp) ?_
    ((iterate 9 refine so_1 rfl ?_))
    refine so_callE rfl rfl rfl (SameRows_S (l := DR) (m := LR) hDR (vF_rl (j := 2) (k := 3) rfl rfl) (hrr (k := 4) rfl)) ?_
    ((iterate 5 refine so_1 rfl ?_))
    refine so_callE rfl rfl rfl (SameEvents_S (l := D) (m := l) hD (rEs_el (k := 0) (j := 1) rfl rfl) (hll (k := 4) rfl) (fun e he => (hDg e he).o)) ?_
    ((iterate 2 refine so_1 rfl ?_); refine so_nil ?_; refine sn_then ?_; refine sw_cond_f rfl ?_; refine sw_skip ?_; refine sn_then ?_; refine sw_seq ?_; refine sw_region ?_; refine so_1 rfl ?_)
    refine so_call rfl rfl rfl ((OverRows_D hD20).ent (ent_keep 5 [2, 3, 0, 1, 4] rfl rfl)) ?_
    rintro _ _ rfl
    (refine so_nil ?_; refine sn_then ?_; refine sw_seq ?_; refine sw_region ?_; refine so_1 rfl ?_)
    refine so_call rfl rfl rfl (OverEvents_D (fun e he => (hDg e he).p) (fun e he => (hDg e he).q) (by omega)) ?_
    rintro _ _ rfl
    (refine so_nil ?_; refine sn_then ?_; refine sw_seq ?_)
    refine sw_draw flo [Is W] (by decide +kernel) (Ent.refl _) ?_
    ((iterate 4 refine sd_1 rfl (.inl rfl) ?_); refine sd_1 rfl (.inr rfl) ?_; (iterate 4 refine sd_1 rfl (.inl rfl) ?_); refine sd_1 rfl (.inr rfl) ?_; (iterate 2 refine sd_1 rfl (.inl rfl) ?_); refine sd_1 rfl (.inr rfl) ?_; (iterate 4 refine sd_1 rfl (.inl rfl) ?_); refine sd_1 rfl (.inr rfl) ?_; (iterate 5 refine sd_1 rfl (.inl rfl) ?_); refine sd_1 rfl (.inr rfl) ?_; (iterate 3 refine sd_1 rfl (.inl rfl) ?_))
    refine sd_call rfl rfl rfl rfl awake_S ?_
    rintro _ _ ⟨rfl, rfl⟩
    refine ⟨Ent.refl _, ?_⟩
    ((iterate 2 refine sd_1 rfl (.inl rfl) ?_))
    refine sd_nil ?_
    (refine sn_then ?_; refine sw_ret ?_)
    refine sn_ret rfl (.tmp rfl .nil) (Ent.refl _) ?_
    exact ⟨rfl, rfl⟩
  · ((iterate 5 refine so_1 rfl ?_); refine so_nil ?_; refine sn_then ?_; refine sw_seq ?_; refine sw_region ?_; (iterate 3 refine so_1 rfl ?_))
    refine so_call rfl rfl rfl (rLoad_S (own := own) (hrr (k := 8) rfl) (hll (k := 8) rfl) (fun e he => (hlg e he).m) (by omega)) ?_
    rintro u2 F2 hres2
    rcases hres2 with ⟨h1, _⟩ | ⟨_, h', Ar, cr, LR2, Al, cl, D2, rfl, hLR2, hD2, rfl⟩
    · exact absurd he h1
    have hsi : StI (LR.map Prod.snd) K D2 := StI.load he hlg (hK.trans hD) hD2
    obtain ⟨hnb, _, _⟩ := loadErr_ok he
    have hLl : LR2.length = LR.length := by have := congrArg List.length hLR2; rwa [List.length_map, List.length_map] at this
    have hKl : K.length ≤ 12 := by have := congrArg List.length hK; rw [List.length_map, List.length_map] at this; omega
    rw [← hLR2] at hsi
    refine so_ent (G := stT g gr gm h' own Ar cr LR.length ⟨K, D2, LR2, Al, cl⟩ [rEs vb D, all (evF D), rRs va DR, all (vF DR), Is W]) (by rw [← hLR2]; exact ent_keep 9 [5, 6, 7, 8, 0, 1, 2, 3, 4] rfl rfl) ?_
    ((iterate 5 refine so_1 rfl ?_); refine so_nil ?_; refine sn_then ?_; (iterate 2 refine sw_seq ?_); refine sw_region ?_; (iterate 13 refine so_1 rfl ?_))
    refine so_callE rfl rfl rfl (SameRows_S (l := DR) (m := LR) hDR (vF_rl (j := 11) (k := 12) rfl rfl) (hrr (k := 13) rfl)) ?_
    ((iterate 5 refine so_1 rfl ?_))
    refine so_callE rfl rfl rfl (SameEvents_S (l := D) (m := l) hD (rEs_el (k := 9) (j := 10) rfl rfl) (hll (k := 13) rfl) (fun e he => (hDg e he).o)) ?_
    ((iterate 2 refine so_1 rfl ?_); refine so_nil ?_; refine sn_then ?_; refine sw_cond_f rfl ?_; refine sw_skip ?_; refine sn_then ?_; refine sw_seq ?_; refine sw_region ?_; refine so_1 rfl ?_)
    refine so_call rfl rfl rfl ((OverRows_D hD20).ent (ent_keep 13 [11, 12, 0, 1, 2, 3, 4, 5, 6, 7, 8, 9, 10] rfl rfl)) ?_
    rintro _ _ rfl
    (refine so_nil ?_; refine sn_then ?_; refine sw_seq ?_; refine sw_region ?_; refine so_1 rfl ?_)
    refine so_call rfl rfl rfl ((OverEvents_D (fun e he => (hDg e he).p) (fun e he => (hDg e he).q) (by omega)).ent (ent_keep 11 [9, 10, 0, 1, 2, 3, 4, 5, 6, 7, 8] rfl rfl)) ?_
    rintro _ _ rfl
    (refine so_nil ?_; refine sn_then ?_; refine sw_seq ?_)
    refine sw_draw2 flo 20 [pt h' t_entrepotref24_Matrix [.int .i64 own, .slice Ar LR.length cr, .slice Al D2.length cl], Is W] [] rfl (by decide +kernel) (ent_keep 9 [4] rfl rfl) ?_
    ((iterate 4 refine sd_1 rfl (.inl rfl) ?_))
    refine sd_call rfl rfl rfl rfl (Kept_S (K := K) hsi.ok hsi.mK (by omega) hsi.srt hsi.prm) ?_
    rintro vk _ ⟨DK, hDK, rfl⟩
    have hKg : ∀ e ∈ DK, EvG e := evG_map hsi.gL hDK
    refine ⟨ent_keep 11 [6] rfl rfl, ?_⟩
    ((iterate 3 refine sd_1 rfl (.inl rfl) ?_); refine sd_l 0 rfl rfl rfl rfl ?_)
    refine sd_callE rfl rfl rfl rfl ((SameEvents_S (m := D2) hDK (rEs_el (k := 0) (j := 1) rfl rfl) (rEs_el (k := 9) (j := 10) rfl rfl) (fun e he => (hKg e he).o))) (ent_keep 11 [6] rfl rfl) ?_
    ((iterate 2 refine sd_1 rfl (.inl rfl) ?_))
    refine sd_ent (G := stT g gr gm h' own Ar cr LR.length ⟨K, D2, LR2, Al, cl⟩ [Is W]) (ent_keep 11 [2, 3, 4, 5, 6, 7, 8, 9, 10] rfl rfl) ?_
    refine sd_call rfl rfl rfl rfl (Rows_S hsi.ok) ?_
    rintro vr _ ⟨Lr, hLr, rfl⟩
    refine ⟨ent_keep 11 [6] rfl rfl, ?_⟩
    ((iterate 3 refine sd_1 rfl (.inl rfl) ?_); refine sd_l 0 rfl rfl rfl rfl ?_)
    refine sd_callE rfl rfl rfl rfl ((SameRows_S (l := Lr) (m := LR2) hLr (vF_rl (j := 0) (k := 1) rfl rfl) (vF_rln (j := 7) (k := 8) hLl rfl rfl))) (ent_keep 11 [6] rfl rfl) ?_
    ((iterate 2 refine sd_1 rfl (.inl rfl) ?_))
    refine sd_nil (sn_draw2 rfl (ent_nil _) ?_)
    ((iterate 3 refine sd_1 rfl (.inl rfl) ?_))
    refine sd_ent (G := stT g gr gm h' own Ar cr LR.length ⟨K, D2, LR2, Al, cl⟩ [Is W]) (ent_keep 11 [2, 3, 4, 5, 6, 7, 8, 9, 10] rfl rfl) ?_
    refine sd_call rfl rfl rfl rfl (acts_S (s0 := ⟨K, D2, LR2, Al, cl⟩) (hl (k := 0) rfl) h.ew hok h30 (by rw [List.length_map] at hnb; obtain ⟨_, _, a3, a4⟩ := newB_iff.1 hnb; exact regB_iff.2 ⟨a3, a4⟩) ⟨hsi, hLl, by dsimp only; omega⟩) ?_
    rintro _ _ ⟨rfl, rfl⟩
    refine ⟨ent_nil _, ?_⟩
    ((iterate 3 refine sd_1 rfl (.inl rfl) ?_))
    refine sd_call rfl rfl rfl rfl awake_S ?_
    rintro _ _ ⟨rfl, rfl⟩
    refine ⟨ent_nil _, ?_⟩
    ((iterate 2 refine sd_1 rfl (.inl rfl) ?_))
    refine sd_nil ?_
    (refine sn_then ?_; refine sw_ret ?_)
    refine sn_ret rfl (.tmp rfl .nil) (Ent.refl _) ?_
    exact ⟨rfl, rfl⟩
end
end Go.Proofs.Ytajbpdmhpcpkgaa
/- Who has what, part twenty-eight: StableNone. Conditions: none. -/
namespace Go.Proofs.Ytajbpdmhpcpkgaa
open Go Go.Eng Go.RowKit Go.WideMaps

theorem none_moreT {P : Program} {f : Nat} {p v : Value} {b : World} {F : List SP} (h : ∀ A : List SP, SC P f [p] b (A ++ F) (fun u G => u = v ∧ G = A ++ F)) (B : List SP) : ∀ A : List SP, SC P f [p] b (A ++ (B ++ F)) (fun u G => u = v ∧ G = A ++ (B ++ F)) := fun A => by
  have := h (A ++ B)
  rwa [List.append_assoc] at this
set_option maxRecDepth 20000 in
set_option maxHeartbeats 4000000 in
theorem walk_StableNone {W : World} {r most : Int} {v : Value} {e : Ev} (h : EA W v e) : Calls Try.prog n_entrepotlaw24_StableNone #[v, .int .i64 r, .int .i64 most] W (fun e w' => e = .returned (.bool true) ∧ Ext W w') := by
  refine law_of (args := [v, .int .i64 r, .int .i64 most]) ?_
  obtain ⟨rfl, hew, her⟩ := h
  have h32 := hew.l32
  have hr : ∀ {F : List SP} {k : Nat}, nth F k = some (Is W) → ∀ w, Sat W F w → ER w e := fun hk w H => her.ext (H.is hk)
  refine enterS F_entrepotlaw24_StableNone rfl rfl rfl ?_
  (refine sw_seq ?_; refine sw_region ?_)
  refine so_box rfl rfl rfl rfl rfl fun g2 => ?_
  (refine so_1 rfl ?_; refine so_nil ?_; refine sn_then ?_; (iterate 2 refine sw_seq ?_); refine sw_region ?_)
  refine so_ldA 0 rfl rfl rfl rfl rfl rfl (segO_all (by rw [evC_len h32]; rfl)) rfl ?_
  refine so_call rfl rfl rfl (LongEvent_S h32 (hr (k := 1) rfl)) ?_
  rintro _ _ ⟨q, _, rfl, rfl⟩
  cases q with
  | true =>
    (refine so_nil ?_; refine sn_then ?_; refine sw_cond_t rfl ?_; refine sw_seq ?_; refine sw_region ?_)
    refine so_call rfl rfl rfl (awake_S) ?_
    rintro _ _ ⟨rfl, rfl⟩
    (refine so_1 rfl ?_; refine so_nil ?_; refine sn_then ?_; refine sw_ret ?_; refine sn_then_ret ?_)
    refine sn_ret rfl (.tmp rfl .nil) (ent_keep 1 [] rfl rfl) ?_
    exact ⟨rfl, rfl⟩
  | false =>
  (refine so_nil ?_; refine sn_then ?_; refine sw_cond_f rfl ?_; refine sw_skip ?_; refine sn_then ?_; refine sw_seq ?_; refine sw_region ?_; refine so_1 rfl ?_)
  refine so_box rfl rfl rfl rfl rfl fun g20 => ?_
  refine so_lit [.pointer none, .pointer (some ⟨g20, 0, none⟩)] rfl rfl rfl rfl rfl rfl rfl rfl rfl fun g21 => ?_
  (refine so_1 rfl ?_; refine so_nil ?_; refine sn_then ?_; (iterate 2 refine sw_seq ?_); refine sw_region ?_; refine so_1 rfl ?_; refine so_nil ?_; refine sn_then ?_; refine sw_block ?_)
  refine sw_loop (S := Nat) (fun i => [(1, .int .i64 r), (2, .int .i64 most), (3, .pointer (some ⟨g2, 0, none⟩)), (7, .slice (some ⟨g21, 0, none⟩) 2 2), (8, .int .i64 (i : Int))]) (fun _ => pt g21 t_p_stable_Matrix [.pointer none, .pointer (some ⟨g20, 0, none⟩)] :: zM g20 :: pt g2 t_api_Event (evC e) :: [Is W]) (fun i => i ≤ 2) (fun i => 2 - i) 0 ⟨rfl, rfl, rfl, rfl, rfl, trivial⟩ (Ent.refl _) (Nat.zero_le _) ?_
  intro i hi
  have hp : i < 2 → ∃ q, nth [Value.pointer none, .pointer (some ⟨g20, 0, none⟩)] (0 + mulz (i : Int).toNat 1) = some (.pointer q) ∧ ∀ A : List SP, SC Try.prog n_p_stable_Matrix_none [.pointer q] W (A ++ (pt g21 t_p_stable_Matrix [.pointer none, .pointer (some ⟨g20, 0, none⟩)] :: zM g20 :: pt g2 t_api_Event (evC e) :: [Is W]))
      (fun v F' => v = .bool true ∧ F' = A ++ (pt g21 t_p_stable_Matrix [.pointer none, .pointer (some ⟨g20, 0, none⟩)] :: zM g20 :: pt g2 t_api_Event (evC e) :: [Is W])) := by
    intro h
    rcases (show i = 0 ∨ i = 1 by omega) with rfl | rfl
    · exact ⟨_, rfl, fun A => mnone_nil⟩
    · refine ⟨_, rfl, fun A => ?_⟩
      have h2 := mnone_zero (g := g20) (b := W) (F := A ++ (pt g21 t_p_stable_Matrix [.pointer none, .pointer (some ⟨g20, 0, none⟩)] :: pt g2 t_api_Event (evC e) :: [Is W]))
      have hperm : (A ++ (pt g21 t_p_stable_Matrix [.pointer none, .pointer (some ⟨g20, 0, none⟩)] :: zM g20 :: pt g2 t_api_Event (evC e) :: [Is W])).Perm
          (zM g20 :: (A ++ (pt g21 t_p_stable_Matrix [.pointer none, .pointer (some ⟨g20, 0, none⟩)] :: pt g2 t_api_Event (evC e) :: [Is W]))) :=
        (List.Perm.append_left A (.swap _ _ _)).trans List.perm_middle
      exact h2.at (ent_perm hperm) (ent_perm hperm.symm)
  ((iterate 2 refine sw_seq ?_); refine sw_region ?_; (iterate 4 refine so_1 rfl ?_); refine so_nil ?_; refine sn_then ?_)
  refine sw_if rfl (fun h => ?_) (fun h => ?_)
  · obtain ⟨q, hq1, hq2⟩ := hp (by omega)
    clear hp
    (refine sw_skip ?_; refine sn_then ?_; refine sw_seq ?_; refine sw_block ?_; refine sw_seq ?_; refine sw_region ?_; (iterate 2 refine so_1 rfl ?_); refine so_2 rfl (by omega) ?_)
    refine so_ld 0 rfl rfl rfl rfl rfl rfl hq1 rfl ?_
    (refine so_1 rfl ?_; refine so_nil ?_; refine sn_then ?_; refine sw_seq ?_; refine sw_region ?_; refine so_1 rfl ?_)
    refine so_ldA 2 rfl rfl rfl rfl rfl rfl (segO_all (by rw [evC_len h32]; rfl)) rfl ?_
    refine so_callE rfl rfl rfl (Keep_none hq2) ?_
    ((iterate 5 refine so_1 rfl ?_); refine so_nil ?_; refine sn_then ?_; refine sw_seq ?_; refine sw_region ?_; (iterate 2 refine so_1 rfl ?_))
    refine so_lit [.int .i64 0] rfl rfl rfl rfl rfl rfl rfl rfl rfl fun g41 => ?_
    (refine so_1 rfl ?_)
    refine so_callE rfl rfl rfl (Give_none (hq2 [_])) ?_
    ((iterate 5 refine so_1 rfl ?_); refine so_nil ?_; refine sn_then ?_; refine sw_seq ?_; refine sw_region ?_; (iterate 2 refine so_1 rfl ?_); refine so_l 3 rfl rfl rfl ?_)
    refine so_callE rfl rfl rfl (Find_none (none_moreT hq2 [_])) ?_
    ((iterate 3 refine so_1 rfl ?_))
    refine so_new rfl rfl rfl rfl rfl fun g14 => ?_
    refine so_stW 0 rfl rfl rfl rfl rfl rfl rfl rfl (evC_one rfl rfl) rfl ?_
    (refine so_1 rfl ?_; refine so_nil ?_; refine sn_then ?_; refine sw_seq ?_; refine sw_region ?_; (iterate 20 refine so_1 rfl ?_))
    refine so_lit [.int .i64 0] rfl rfl rfl rfl rfl rfl rfl rfl rfl fun g73 => ?_
    refine so_callE rfl rfl rfl (Seen_none (hq2 [_, _, _])) ?_
    ((iterate 4 refine so_1 rfl ?_))
    refine so_callE rfl rfl rfl (Rows_none (hq2 [_, _, _])) ?_
    ((iterate 5 refine so_1 rfl ?_))
    refine so_callE rfl rfl rfl (Bound_none (hq2 [_, _, _])) ?_
    ((iterate 5 refine so_1 rfl ?_))
    refine so_callE rfl rfl rfl (Kept_none (hq2 [_, _, _])) ?_
    ((iterate 5 refine so_1 rfl ?_))
    refine so_callE rfl rfl rfl (Collect_none (hq2 [_, _, _])) ?_
    ((iterate 3 refine so_1 rfl ?_); refine so_nil ?_; refine sn_then ?_; refine sw_cond_f rfl ?_; refine sw_skip ?_; refine sn_block ?_; refine sn_then ?_; refine sw_region ?_; refine so_1 rfl ?_; refine so_2 rfl (by (unfold I64; omega)) ?_; refine so_1 rfl ?_; refine so_nil ?_)
    refine sn_round (i + 1) ⟨rfl, rfl, rfl, rfl, rfl, trivial⟩ (ent_keep 3 [] rfl rfl) ?_ ?_
    · show i + 1 ≤ 2
      omega
    · show 2 - (i + 1) < 2 - i
      omega
  · (refine sw_exit ?_; refine sn_then_exit ?_; refine sn_loop_exit ?_; refine sn_block_exit ?_; refine sn_then ?_; refine sw_seq ?_; refine sw_region ?_)
    refine so_call rfl rfl rfl (awake_S) ?_
    rintro _ _ ⟨rfl, rfl⟩
    (refine so_1 rfl ?_; refine so_nil ?_; refine sn_then ?_; refine sw_ret ?_)
    refine sn_ret rfl (.tmp rfl .nil) (ent_keep 3 [] rfl rfl) ?_
    exact ⟨rfl, rfl⟩
end Go.Proofs.Ytajbpdmhpcpkgaa
