/- Who has what, part twenty-three: the chapter's examples. Conditions: none. -/
import Derived.Test.YtajbpdmhpcpkgaaJ8
import Derived.Test.YtajbpdmhpcpkgaaJ3
namespace Go.Proofs.Ytajbpdmhpcpkgaa
open Go Go.Eng Go.RowKit Go.WideMaps

/-- The chapter's events. -/
def mkA (r n : Int) (dv : Value) (deps : List Int) : Ev := ⟨r, n, dv, deps, 4, ⟨#[97]⟩, ⟨#[118]⟩, List.replicate 32 0, .slice none 0 0, []⟩
abbrev eA : Ev := mkA 1 1 nS [0, 0, 0]
abbrev fA : Ev := mkA 2 1 nS [1, 0, 0]
abbrev R0 : List (List Int) := [[0, 0, 0], [0, 0, 0], [0, 0, 0]]
abbrev R1 : List (List Int) := [[1, 1, 0], [0, 0, 0], [0, 0, 0]]
abbrev R2 : List (List Int) := [[1, 1, 0], [1, 1, 0], [0, 0, 0]]
abbrev R3 : List (List Int) := [[1, 1, 0], [1, 1, 0], [1, 0, 0]]
theorem mkA_g {r n : Int} {dv : Value} {deps : List Int} (h1 : 0 ≤ r ∧ r ≤ 1000) (h2 : 0 ≤ n ∧ n ≤ 1000) (h3 : deps.length ≤ 1000) : EvG (mkA r n dv deps) :=
  ⟨⟨rfl, by show deps.length ≤ 1000000; omega, by show 0 ≤ 1000000; omega⟩, (fun x hx => by simp [mkA] at hx), ⟨(i64wf _).2 (by show I64 r; unfold I64; omega), (i64wf _).2 (by show I64 n; unfold I64; omega)⟩⟩
section
variable {b : World} {F : List SP} {v : Value} {xs : List Int} {g gr gm : Nat} {own : Int} {R : List (List Int)} {K L : List Ev} {e : Ev}
theorem pt_vl {g k : Nat} {j : Nat} (hj : nth F j = some (pt g t_int (ints xs))) (hk : k = xs.length) (hm : k ≤ 1000) : ∀ w, Sat b F w → VL (Value.int .i64) w (.slice (some ⟨g, 0, none⟩) k k) xs := fun w H => by
  subst hk
  exact (H.blk hj).sl (by simp) (by omega)
theorem mkA_er {r m : Int} {deps : List Int} (h : ∀ w, Sat b F w → VL (Value.int .i64) w v deps) : ∀ w, Sat b F w → ER w (mkA r m v deps) := fun w H => ⟨h w H, SL.nil w 32⟩
theorem pt_el {g j : Nat} (hj : nth F j = some (pt g t_api_Event (evC e))) (h32 : e.id.length = 32) (he : ∀ w, Sat b F w → ER w e) : ∀ w, Sat b F w → EL w (.slice (some ⟨g, 0, none⟩) 1 1) [e] := fun w H => ⟨by
  have e1 : evsC [e] = evC e := by simp [flC]
  rw [e1]
  exact (H.blk hj).sl (by rw [evC_len h32]) (by decide), fun m hm => by rw [List.mem_singleton.1 hm]; exact he w H⟩
set_option maxRecDepth 20000 in
theorem made_S {r m : Int} {A : Option Addr} {k c : Nat} {deps : List Int} : SC Try.prog n_entrepotlaw24_made [.int .i64 r, .int .i64 m, .slice A k c] b F (fun u F' => u = evV (mkA r m (.slice A k c) deps) ∧ F' = F) := by
  refine enterS F_entrepotlaw24_made rfl rfl rfl ?_
  (refine sw_seq ?_; refine sw_region ?_)
  refine so_new rfl rfl rfl rfl rfl fun g6 => ?_
  (refine so_nil ?_; refine sn_then ?_; refine sw_seq ?_; refine sw_region ?_; (iterate 5 refine so_1 rfl ?_); refine so_s1 0 rfl rfl rfl rfl ?_; refine so_nil ?_; refine sn_then ?_; refine sw_ret ?_)
  refine sn_ret rfl (.agg 0 rfl rfl rfl rfl rfl .nil) (ent_keep 1 [] rfl rfl) ?_
  exact ⟨rfl, rfl⟩
set_option maxRecDepth 20000 in
set_option maxHeartbeats 2000000 in
theorem keeps_S {want : Bool} {err : Int} (hsi : StI R K L) (ho : regB R.length own = true) (hd : dotOk (dotE e)) (he : ∀ w, Sat b F w → ER w e) (hm : EvM e) (hk : (keepB own R K e).1 = (want, err)) :
    SC Try.prog n_entrepotlaw24_keeps [.pointer (some ⟨g, 0, none⟩), evV e, .bool want, .int .i64 err] b (stM g gr gm own R K F) (fun u F' => u = .bool true ∧
      (((keepB own R K e).2 = false ∧ F' = stM g gr gm own R K F) ∨ ((keepB own R K e).2 = true ∧ ∃ y, nE y = nE e ∧ F' = stM g gr gm own R (K ++ [y]) F))) := by
  have hel := evC_len hm.l32
  refine enterS F_entrepotlaw24_keeps rfl rfl rfl ?_
  (refine sw_seq ?_; refine sw_region ?_)
  refine so_box rfl rfl rfl rfl rfl fun g5 => ?_
  (refine so_1 rfl ?_; refine so_nil ?_; refine sn_then ?_; refine sw_seq ?_; refine sw_region ?_; refine so_1 rfl ?_)
  refine so_ldA 0 rfl rfl rfl rfl rfl rfl (segO_all (by rw [hel]; rfl)) rfl ?_
  refine so_call rfl rfl rfl ((Keep_S (F := pt g5 t_api_Event (evC e) :: F) hsi.ok ho hsi.mK hd (up he (ent_keep 1 [] rfl rfl)) hm).ent (ent_keep 5 [1, 2, 3, 4, 0] rfl rfl)) ?_
  rw [hk]
  rintro _ F2 ⟨rfl, hF2⟩
  obtain ⟨K2, hK2, rfl⟩ : ∃ K2, ((keepB own R K e).2 = false ∧ K2 = K ∨ (keepB own R K e).2 = true ∧ ∃ y, nE y = nE e ∧ K2 = K ++ [y]) ∧ F2 = stM g gr gm own R K2 (pt g5 t_api_Event (evC e) :: F) := by
    rcases hF2 with ⟨h1, rfl⟩ | ⟨h1, y, hy, rfl⟩
    · exact ⟨_, .inl ⟨h1, rfl⟩, rfl⟩
    · exact ⟨_, .inr ⟨h1, y, hy, rfl⟩, rfl⟩
  clear hF2
  ((iterate 5 refine so_1 rfl ?_); refine so_nil ?_; refine sn_then ?_; refine sw_seq ?_; refine sw_region ?_; (iterate 4 refine so_1 rfl ?_))
  refine so_know 20 (.bool true) rfl (by cases want <;> rfl) ?_
  ((iterate 5 refine so_1 rfl ?_); refine so_nil ?_; refine sn_then ?_; refine sw_ret ?_)
  refine sn_ret rfl (.tmp rfl .nil) (ent_keep 5 [0, 1, 2, 3] rfl rfl) ?_
  refine ⟨congrArg Value.bool (decide_eq_true rfl), ?_⟩
  rcases hK2 with ⟨q, rfl⟩ | ⟨q, y, hy, rfl⟩
  · exact .inl ⟨q, rfl⟩
  · exact .inr ⟨q, y, hy, rfl⟩
set_option maxRecDepth 20000 in
set_option maxHeartbeats 2000000 in
theorem gives_S {r most : Int} {vw : Value} {M : List Ev} (hsi : StI R K L) (hn : K.length ≤ 100000) (h : ∀ w, Sat b F w → VL (Value.int .i64) w v xs) (hw : ∀ w, Sat b F w → EL w vw M) (hT : giveT R (L.map nE) r xs most = (M.map nE, 0)) :
    SC Try.prog n_entrepotlaw24_gives [.pointer (some ⟨g, 0, none⟩), .int .i64 r, .int .i64 most, v, vw] b (stM g gr gm own R K F) (fun u F' => u = .bool true ∧ F' = stM g gr gm own R K F) := by
  refine enterS F_entrepotlaw24_gives rfl rfl rfl ?_
  (refine sw_seq ?_; refine sw_region ?_; refine so_1 rfl ?_; refine so_nil ?_; refine sn_then ?_; refine sw_seq ?_; refine sw_region ?_; (iterate 4 refine so_1 rfl ?_))
  refine so_call rfl rfl rfl (Give_S hsi.ok hsi.mK hn hsi.srt hsi.prm h) ?_
  rintro _ _ ⟨gv, D, rfl, hD, rfl⟩
  have hsub := giveT_sub R (L.map nE) r xs most
  rw [hT] at hD hsub ⊢
  have hDg : ∀ e ∈ D, EvG e := evG_sub hsi.gL fun y hy => by rw [hD] at hy; exact hsub.mem hy
  ((iterate 5 refine so_1 rfl ?_); refine so_nil ?_; refine sn_then ?_; refine sw_seq ?_; refine sw_region ?_; (iterate 5 refine so_1 rfl ?_))
  refine so_callE rfl rfl rfl (SameEvents_S hD (rEs_el (k := 0) (j := 1) rfl rfl) (up hw (ent_keep 6 [] rfl rfl)) (fun e he => (hDg e he).o)) ?_
  ((iterate 2 refine so_1 rfl ?_); refine so_nil ?_; refine sn_then ?_; refine sw_ret ?_)
  refine sn_ret rfl (.tmp rfl .nil) (ent_keep 2 [] rfl rfl) ?_
  exact ⟨rfl, rfl⟩
theorem rows3 : RowsOk R0 := rows_zero (n := 3) (by decide) (by decide)
set_option maxRecDepth 20000 in
set_option maxHeartbeats 4000000 in
theorem first_S : SC Try.prog n_entrepotlaw24_first [] b F (fun u F' => ∃ g gr gm K, u = .pointer (some ⟨g, 0, none⟩) ∧ StI R1 K [eA, fA] ∧ K.length = 2 ∧ F' = stM g gr gm 1 R1 K F) := by
  have s1 : seenT R0 1 [1, 1, 0] = (0, R1) := by decide +kernel
  have k1 : keepB 1 R1 [] eA = ((true, 0), true) := by decide +kernel
  have k2 : keepB 1 R1 [eA] fA = ((true, 0), true) := by decide +kernel
  have hR1 : RowsOk R1 := by have := seenT_ok rows3 1 [1, 1, 0]; rw [s1] at this; exact this
  refine enterS F_entrepotlaw24_first rfl rfl rfl ?_
  (refine sw_seq ?_; refine sw_region ?_; refine so_1 rfl ?_; refine so_nil ?_; refine sn_then ?_; refine sw_seq ?_; refine sw_region ?_)
  refine so_call rfl rfl rfl (mNew_S (n := 3) (own := 1) (by decide)) ?_
  rintro _ _ ⟨g, gr, gm, rfl, rfl⟩
  refine so_ent (G := stM g gr gm 1 R0 [] F) (Ent.refl _) ?_
  ((iterate 5 refine so_1 rfl ?_); refine so_nil ?_; refine sn_then ?_; (iterate 2 refine sw_seq ?_); refine sw_region ?_; (iterate 8 refine so_1 rfl ?_))
  refine so_lit [.int .i64 1, .int .i64 1, .int .i64 0] rfl rfl rfl rfl rfl rfl rfl rfl rfl fun gl1 => ?_
  refine so_call rfl rfl rfl ((Seen_S (F := pt gl1 t_int (ints [1, 1, 0]) :: F) rows3 (pt_vl (k := 3) (j := 0) rfl rfl (by decide))).ent (ent_keep 5 [1, 2, 3, 4, 0] rfl rfl)) ?_
  rw [s1]
  rintro _ _ ⟨rfl, rfl⟩
  ((iterate 4 refine so_1 rfl ?_))
  refine so_lit [.int .i64 0, .int .i64 0, .int .i64 0] rfl rfl rfl rfl rfl rfl rfl rfl rfl fun gl2 => ?_
  refine so_callE rfl rfl rfl (made_S (deps := [0, 0, 0])) ?_
  have k1' : keepB 1 R1 [] (mkA 1 1 (.slice (some ⟨gl2, 0, none⟩) 3 3) [0, 0, 0]) = ((true, 0), true) := k1
  refine so_call rfl rfl rfl ((keeps_S (F := pt gl2 t_int (ints [0, 0, 0]) :: pt gl1 t_int (ints [1, 1, 0]) :: F) (K := []) (L := []) (.none hR1) (by decide) (mkA_g (by decide) (by decide) (by decide)).dk (mkA_er (pt_vl (k := 3) (j := 0) rfl rfl (by decide))) (mkA_g (by decide) (by decide) (by decide)).m (by rw [k1'])).ent (ent_keep 6 [1, 2, 3, 4, 0, 5] rfl rfl)) ?_
  rw [k1']
  rintro _ _ ⟨rfl, hF⟩
  rcases hF with ⟨hq, _⟩ | ⟨_, y, hy, rfl⟩
  · cases hq
  have hs1 : StI R1 [y] [eA] := (StI.none hR1).kept (e := eA) (mkA_g (by decide) (by decide) (by decide)) rfl hy (isSort_of_lt (by simp) (.refl _))
  ((iterate 4 refine so_1 rfl ?_))
  refine so_lit [.int .i64 1, .int .i64 0, .int .i64 0] rfl rfl rfl rfl rfl rfl rfl rfl rfl fun gl3 => ?_
  refine so_callE rfl rfl rfl (made_S (deps := [1, 0, 0])) ?_
  have k2' : keepB 1 R1 [y] (mkA 2 1 (.slice (some ⟨gl3, 0, none⟩) 3 3) [1, 0, 0]) = ((true, 0), true) := (hs1.keep 1 _).symm.trans k2
  refine so_call rfl rfl rfl ((keeps_S (F := pt gl3 t_int (ints [1, 0, 0]) :: pt gl2 t_int (ints [0, 0, 0]) :: pt gl1 t_int (ints [1, 1, 0]) :: F) (K := [y]) hs1 (by decide) (mkA_g (by decide) (by decide) (by decide)).dk (mkA_er (pt_vl (k := 3) (j := 0) rfl rfl (by decide))) (mkA_g (by decide) (by decide) (by decide)).m (by rw [k2'])).ent (ent_keep 7 [1, 2, 3, 4, 0, 5, 6] rfl rfl)) ?_
  rw [k2']
  rintro _ _ ⟨rfl, hF⟩
  rcases hF with ⟨hq, _⟩ | ⟨_, y2, hy2, rfl⟩
  · cases hq
  have hs2 : StI R1 ([y] ++ [y2]) [eA, fA] := hs1.kept (e := fA) (mkA_g (by decide) (by decide) (by decide)) (keepB_new (own := 1) (R := R1) (e := fA) (congrArg Prod.snd k2')) hy2 (isSort_of_lt (by decide +kernel) (.refl _))
  ((iterate 2 refine so_1 rfl ?_); refine so_nil ?_; refine sn_then ?_; refine sw_cond_f rfl ?_; refine sw_skip ?_; refine sn_then ?_; refine sw_seq ?_; refine sw_region ?_; (iterate 2 refine so_1 rfl ?_); refine so_nil ?_; refine sn_then ?_; refine sw_ret ?_)
  refine sn_ret rfl (.tmp rfl .nil) (ent_keep 7 [0, 1, 2, 3] rfl rfl) ?_
  exact ⟨g, gr, gm, _, rfl, hs2, rfl, rfl⟩
end
end Go.Proofs.Ytajbpdmhpcpkgaa
/- Who has what, part twenty-four: awake, StableKnown. Conditions: none. -/
namespace Go.Proofs.Ytajbpdmhpcpkgaa
open Go Go.Eng Go.RowKit Go.WideMaps

section
variable {b : World} {F : List SP}
set_option maxRecDepth 20000 in
set_option maxHeartbeats 4000000 in
theorem awake_S : SC Try.prog n_entrepotlaw24_awake [] b F (fun u F' => u = .bool true ∧ F' = F) := by
  have b1 : boundL R1 = [0, 0, 0] := by decide +kernel
  have g1 : giveT R1 ([eA, fA].map nE) 2 [1, 0, 0] 8 = ([fA], 0) := by kernel_rfl
  have s2 : seenT R1 2 [1, 1, 0] = (0, R2) := by decide +kernel
  have s3 : seenT R2 3 [1, 0, 0] = (0, R3) := by decide +kernel
  have f1 : ([eA, fA].map nE).filter (stB R3) = [eA] := by kernel_rfl
  have f2 : [eA, fA].filter (fun e => !stB R3 e) = [fA] := by kernel_rfl
  refine enterS F_entrepotlaw24_awake rfl rfl rfl ?_
  (refine sw_seq ?_; refine sw_region ?_; refine so_1 rfl ?_; refine so_nil ?_; refine sn_then ?_; refine sw_seq ?_; refine sw_region ?_)
  refine so_call rfl rfl rfl (first_S) ?_
  rintro _ _ ⟨g, gr, gm, K, rfl, hsi, hKl, rfl⟩
  (refine so_1 rfl ?_; refine so_nil ?_; refine sn_then ?_; (iterate 2 refine sw_seq ?_); refine sw_region ?_; (iterate 4 refine so_1 rfl ?_))
  refine so_call rfl rfl rfl (Bound_S hsi.ok) ?_
  rintro bv _ rfl
  rw [b1]
  refine so_lit [.int .i64 0, .int .i64 0, .int .i64 0] rfl rfl rfl rfl rfl rfl rfl rfl rfl fun gl1 => ?_
  refine so_callE rfl rfl rfl (SameInts_S (ys := [0, 0, 0]) (vlZ (k := 1) rfl) (pt_vl (k := 3) (j := 0) rfl rfl (by decide))) ?_
  rw [decide_eq_true (rfl : ([0, 0, 0] : List Int) = [0, 0, 0])]
  refine so_ent (G := stM g gr gm 1 R1 K F) (ent_keep 6 [2, 3, 4, 5] rfl rfl) ?_
  ((iterate 4 refine so_1 rfl ?_))
  refine so_lit [.int .i64 1, .int .i64 0, .int .i64 0] rfl rfl rfl rfl rfl rfl rfl rfl rfl fun gl2 => ?_
  refine so_lit [.int .i64 1, .int .i64 0, .int .i64 0] rfl rfl rfl rfl rfl rfl rfl rfl rfl fun gl3 => ?_
  refine so_callE rfl rfl rfl (made_S (deps := [1, 0, 0])) ?_
  refine so_lit1 rfl rfl rfl rfl rfl rfl rfl rfl (by decide) fun gl4 => ?_
  skip
  refine so_call rfl rfl rfl ((gives_S (F := pt gl4 t_api_Event (evC (mkA 2 1 (.slice (some ⟨gl3, 0, none⟩) 3 3) [1, 0, 0])) :: pt gl3 t_int (ints [1, 0, 0]) :: pt gl2 t_int (ints [1, 0, 0]) :: F) (M := [mkA 2 1 (.slice (some ⟨gl3, 0, none⟩) 3 3) [1, 0, 0]]) (xs := [1, 0, 0]) hsi (by omega) (pt_vl (k := 3) (j := 2) rfl rfl (by decide)) (pt_el (j := 0) rfl rfl (mkA_er (pt_vl (k := 3) (j := 1) rfl rfl (by decide)))) g1).ent (ent_keep 7 [3, 4, 5, 6, 0, 1, 2] rfl rfl)) ?_
  rintro _ _ ⟨rfl, rfl⟩
  ((iterate 2 refine so_1 rfl ?_); refine so_nil ?_; refine sn_then ?_; refine sw_cond_f rfl ?_; refine sw_skip ?_; refine sn_then ?_; refine sw_seq ?_; refine sw_region ?_; refine so_1 rfl ?_)
  refine so_ent (G := stM g gr gm 1 R1 K F) (ent_keep 7 [0, 1, 2, 3] rfl rfl) ?_
  refine so_lit [.int .i64 1, .int .i64 1, .int .i64 0] rfl rfl rfl rfl rfl rfl rfl rfl rfl fun gl5 => ?_
  refine so_call rfl rfl rfl ((Seen_S (F := pt gl5 t_int (ints [1, 1, 0]) :: F) hsi.ok (pt_vl (k := 3) (j := 0) rfl rfl (by decide))).ent (ent_keep 5 [1, 2, 3, 4, 0] rfl rfl)) ?_
  rw [s2]
  rintro _ _ ⟨rfl, rfl⟩
  have hR2 : RowsOk R2 := by have := seenT_ok hsi.ok 2 [1, 1, 0]; rw [s2] at this; exact this
  have hR3 : RowsOk R3 := by have := seenT_ok hR2 3 [1, 0, 0]; rw [s3] at this; exact this
  ((iterate 3 refine so_1 rfl ?_))
  refine so_ent (G := stM g gr gm 1 R2 K F) (ent_keep 5 [0, 1, 2, 3] rfl rfl) ?_
  refine so_lit [.int .i64 1, .int .i64 0, .int .i64 0] rfl rfl rfl rfl rfl rfl rfl rfl rfl fun gl6 => ?_
  refine so_call rfl rfl rfl ((Seen_S (F := pt gl6 t_int (ints [1, 0, 0]) :: F) hR2 (pt_vl (k := 3) (j := 0) rfl rfl (by decide))).ent (ent_keep 5 [1, 2, 3, 4, 0] rfl rfl)) ?_
  rw [s3]
  rintro _ _ ⟨rfl, rfl⟩
  have hs3 := hsi.rows hR3
  ((iterate 4 refine so_1 rfl ?_))
  refine so_ent (G := stM g gr gm 1 R3 K F) (ent_keep 5 [0, 1, 2, 3] rfl rfl) ?_
  refine so_call rfl rfl rfl (mCollect_S hs3.ok hs3.mK hs3.dk hs3.nd (by omega) hs3.srt hs3.prm) ?_
  rintro va _ ⟨G, K2, hG, hK2, rfl⟩
  have hs4 := hs3.rest (p := fun e => !stB R3 e) (fun e => rfl) hK2
  rw [f1] at hG
  rw [f2] at hs4
  have hK2l : K2.length ≤ 2 := by have := hs4.len; simp at this; omega
  have hGg : ∀ e ∈ G, EvG e := evG_sub (l := [eA]) (fun e he => by rw [List.mem_singleton.1 he]; exact mkA_g (by decide) (by decide) (by decide)) fun y hy => by rw [hG] at hy; exact hy
  refine so_lit [.int .i64 0, .int .i64 0, .int .i64 0] rfl rfl rfl rfl rfl rfl rfl rfl rfl fun gl7 => ?_
  refine so_callE rfl rfl rfl (made_S (deps := [0, 0, 0])) ?_
  refine so_lit1 rfl rfl rfl rfl rfl rfl rfl rfl (by decide) fun gl8 => ?_
  refine so_callE rfl rfl rfl (SameEvents_S (m := [mkA 1 1 (.slice (some ⟨gl7, 0, none⟩) 3 3) [0, 0, 0]]) hG (rEs_el (k := 2) (j := 3) rfl rfl) (pt_el (j := 0) rfl rfl (mkA_er (pt_vl (k := 3) (j := 1) rfl rfl (by decide)))) (fun e he => (hGg e he).o)) ?_
  refine so_ent (G := stM g gr gm 1 R3 K2 F) (ent_keep 8 [4, 5, 6, 7] rfl rfl) ?_
  ((iterate 3 refine so_1 rfl ?_))
  refine so_call rfl rfl rfl (Kept_S hs4.ok hs4.mK (by omega) hs4.srt hs4.prm) ?_
  rintro vc _ ⟨D, hD, rfl⟩
  have hDg : ∀ e ∈ D, EvG e := evG_sub (l := [fA]) (fun e he => by rw [List.mem_singleton.1 he]; exact mkA_g (by decide) (by decide) (by decide)) fun y hy => by rw [hD] at hy; exact hy
  refine so_lit [.int .i64 1, .int .i64 0, .int .i64 0] rfl rfl rfl rfl rfl rfl rfl rfl rfl fun gl9 => ?_
  refine so_callE rfl rfl rfl (made_S (deps := [1, 0, 0])) ?_
  refine so_lit1 rfl rfl rfl rfl rfl rfl rfl rfl (by decide) fun gl10 => ?_
  refine so_callE rfl rfl rfl (SameEvents_S (m := [mkA 2 1 (.slice (some ⟨gl9, 0, none⟩) 3 3) [1, 0, 0]]) hD (rEs_el (k := 2) (j := 3) rfl rfl) (pt_el (j := 0) rfl rfl (mkA_er (pt_vl (k := 3) (j := 1) rfl rfl (by decide)))) (fun e he => (hDg e he).o)) ?_
  ((iterate 2 refine so_1 rfl ?_); refine so_nil ?_; refine sn_then ?_; refine sw_ret ?_)
  refine sn_ret rfl (.tmp rfl .nil) (ent_keep 8 [] rfl rfl) ?_
  exact ⟨rfl, rfl⟩
end
end Go.Proofs.Ytajbpdmhpcpkgaa
/- Who has what, part twenty-five: StableKnown. Conditions: none. -/
namespace Go.Proofs.Ytajbpdmhpcpkgaa
open Go Go.Eng Go.RowKit Go.WideMaps

section
variable {b : World} {F : List SP}
theorem pt_el2 {g j : Nat} {e f : Ev} (hj : nth F j = some (pt g t_api_Event (evC e ++ evC f))) (h32 : e.id.length = 32) (h32f : f.id.length = 32) (he : ∀ w, Sat b F w → ER w e) (hf : ∀ w, Sat b F w → ER w f) : ∀ w, Sat b F w → EL w (.slice (some ⟨g, 0, none⟩) 2 2) [e, f] := fun w H => ⟨by
  have e1 : evsC [e, f] = evC e ++ evC f := by simp [flC]
  rw [e1]
  exact (H.blk hj).sl (by rw [List.length_append, evC_len h32, evC_len h32f]) (by decide), fun m hm => by
    rcases List.mem_cons.1 hm with rfl | hm
    · exact he w H
    · rw [List.mem_singleton.1 hm]; exact hf w H⟩
set_option maxRecDepth 20000 in
set_option maxHeartbeats 8000000 in
theorem Known_S : SC Try.prog n_entrepotlaw24_StableKnown [] b F (fun u F' => u = .bool true ∧ F' = F) := by
  have k1 : keepB 1 R1 [eA, fA] eA = ((false, 0), false) := by decide +kernel
  have g1 : giveT R1 ([eA, fA].map nE) 2 [0, 0, 0] 1 = ([eA], 0) := by kernel_rfl
  have g2' : giveT R1 ([eA, fA].map nE) 2 [1, 1, 0] 8 = ([], 0) := by kernel_rfl
  have t1 : seenT R1 4 [0, 0, 0] = (3, R1) := by decide +kernel
  have t2 : seenT R1 1 [0] = (2, R1) := by decide +kernel
  have k3 : keepB 1 R1 [eA, fA] (mkA 3 1 nS [0, 0, 0]) = ((false, 25), false) := by decide +kernel
  have s2 : seenT R1 2 [1, 1, 0] = (0, R2) := by decide +kernel
  have s3 : seenT R2 3 [1, 0, 0] = (0, R3) := by decide +kernel
  have b3 : boundL R3 = [1, 0, 0] := by decide +kernel
  have f1 : ([eA, fA].map nE).filter (stB R3) = [eA] := by kernel_rfl
  have f2 : [eA, fA].filter (fun e => !stB R3 e) = [fA] := by kernel_rfl
  have k4 : keepB 1 R3 [fA] eA = ((false, 0), false) := by decide +kernel
  refine enterS F_entrepotlaw24_StableKnown rfl rfl rfl ?_
  (refine sw_seq ?_; refine sw_region ?_; refine so_1 rfl ?_; refine so_nil ?_; refine sn_then ?_; refine sw_seq ?_; refine sw_region ?_)
  refine so_call rfl rfl rfl (first_S) ?_
  rintro _ _ ⟨g, gr, gm, K, rfl, hsi, hKl, rfl⟩
  (refine so_1 rfl ?_; refine so_nil ?_; refine sn_then ?_; (iterate 2 refine sw_seq ?_); refine sw_region ?_; (iterate 2 refine so_1 rfl ?_); refine so_nil ?_; refine sn_then ?_; refine sw_cond_f rfl ?_; refine sw_skip ?_; refine sn_then ?_; refine sw_seq ?_; refine sw_region ?_)
  refine so_lit [.int .i64 0, .int .i64 0, .int .i64 0] rfl rfl rfl rfl rfl rfl rfl rfl rfl fun gl1 => ?_
  refine so_callE rfl rfl rfl (made_S (deps := [0, 0, 0])) ?_
  refine so_lit [.int .i64 1, .int .i64 0, .int .i64 0] rfl rfl rfl rfl rfl rfl rfl rfl rfl fun gl2 => ?_
  refine so_callE rfl rfl rfl (made_S (deps := [1, 0, 0])) ?_
  have k1' : keepB 1 R1 K (mkA 1 1 (.slice (some ⟨gl1, 0, none⟩) 3 3) [0, 0, 0]) = ((false, 0), false) := (hsi.keep 1 _).symm.trans k1
  have x1n : nE (mkA 1 1 (.slice (some ⟨gl1, 0, none⟩) 3 3) [0, 0, 0]) = eA := rfl
  have x2n : nE (mkA 2 1 (.slice (some ⟨gl2, 0, none⟩) 3 3) [1, 0, 0]) = fA := rfl
  have er1 : ∀ {F : List SP} {j : Nat}, nth F j = some (pt gl1 t_int (ints [0, 0, 0])) → ∀ w, Sat b F w → ER w (mkA 1 1 (.slice (some ⟨gl1, 0, none⟩) 3 3) [0, 0, 0]) := fun hj => mkA_er (pt_vl hj rfl (by decide))
  have er2 : ∀ {F : List SP} {j : Nat}, nth F j = some (pt gl2 t_int (ints [1, 0, 0])) → ∀ w, Sat b F w → ER w (mkA 2 1 (.slice (some ⟨gl2, 0, none⟩) 3 3) [1, 0, 0]) := fun hj => mkA_er (pt_vl hj rfl (by decide))
  have xg1 : EvG (mkA 1 1 (.slice (some ⟨gl1, 0, none⟩) 3 3) [0, 0, 0]) := mkA_g (by decide) (by decide) (by decide)
  have xg2 : EvG (mkA 2 1 (.slice (some ⟨gl2, 0, none⟩) 3 3) [1, 0, 0]) := mkA_g (by decide) (by decide) (by decide)
  have xd1 : dotE (mkA 1 1 (.slice (some ⟨gl1, 0, none⟩) 3 3) [0, 0, 0]) = (1, 1) := rfl
  have k4' : keepB 1 R3 [fA] (mkA 1 1 (.slice (some ⟨gl1, 0, none⟩) 3 3) [0, 0, 0]) = ((false, 0), false) := k4
  have x11 := evC_one (e := mkA 1 1 (.slice (some ⟨gl1, 0, none⟩) 3 3) [0, 0, 0]) rfl rfl
  have x21 := evC_one (e := mkA 2 1 (.slice (some ⟨gl2, 0, none⟩) 3 3) [1, 0, 0]) rfl rfl
  generalize mkA 1 1 (.slice (some ⟨gl1, 0, none⟩) 3 3) [0, 0, 0] = x1 at *
  generalize mkA 2 1 (.slice (some ⟨gl2, 0, none⟩) 3 3) [1, 0, 0] = x2 at *
  have x1l := evC_len xg1.m.l32
  have x2l := evC_len xg2.m.l32
  refine so_new rfl rfl rfl rfl rfl fun g2 => ?_
  refine so_new rfl rfl rfl rfl rfl fun g3 => ?_
  refine so_stW 1 rfl rfl rfl rfl rfl rfl rfl x1l x11 (by rw [x1l]; rfl) ?_
  refine so_stW 0 rfl rfl rfl rfl rfl rfl rfl x2l x21 (by rw [x2l]; rfl) ?_
  refine so_ent (G := stM g gr gm 1 R1 K (pt g2 t_api_Event (evC x1) :: pt g3 t_api_Event (evC x2) :: pt gl1 t_int (ints [0, 0, 0]) :: pt gl2 t_int (ints [1, 0, 0]) :: F)) (ent_keep 8 [4, 5, 6, 7, 1, 0, 3, 2] rfl rfl) ?_
  (refine so_nil ?_; refine sn_then ?_; refine sw_seq ?_; refine sw_region ?_)
  refine so_call rfl rfl rfl (mNew_bad (n := 3) (own := 4) (by decide)) ?_
  rintro _ _ ⟨rfl, rfl⟩
  ((iterate 5 refine so_1 rfl ?_); refine so_nil ?_; refine sn_then ?_; refine sw_seq ?_)
  refine sw_tree flo (OT.pre (List.range' 0 5) (.two 5 [6, 7] 8 (OT.pre (List.range' 9 4) (.two 13 [14] 15 (OT.pre (List.range' 16 30) .nil))))) (pt g2 t_api_Event (evC x1) :: pt g3 t_api_Event (evC x2) :: pt gl1 t_int (ints [0, 0, 0]) :: pt gl2 t_int (ints [1, 0, 0]) :: F) (by decide +kernel) (ent_keep 8 [4, 5, 6, 7] rfl rfl) ?_
  refine st_ops 0 5 _ rfl rfl ?_
  (refine sd_1 rfl (.inl rfl) ?_)
  refine sd_ldA 0 rfl rfl rfl rfl rfl rfl (segO_all (by rw [x1l]; rfl)) rfl rfl ?_
  refine sd_call rfl rfl rfl rfl (keeps_S hsi (by decide) xg1.dk (er1 (j := 2) rfl) xg1.m (by rw [k1'])) ?_
  rw [k1']
  rintro _ _ ⟨rfl, hF⟩
  obtain rfl := (hF.resolve_right fun q => by cases q.1).2
  refine ⟨ent_keep 8 [4, 5, 6, 7] rfl rfl, ?_⟩
  clear hF
  ((iterate 2 refine sd_1 rfl (.inl rfl) ?_))
  refine sd_nil (sn_tree (ent_keep 8 [4, 5, 6, 7] rfl rfl) ?_)
  refine st_twoJ (S' := Value × List Ev × Nat) (fun s => [(1, .pointer (some ⟨g, 0, none⟩)), (2, .pointer (some ⟨g2, 0, none⟩)), (3, .pointer (some ⟨g3, 0, none⟩)), (5, .int .i64 3), (21, .bool true), (23, s.1), (26, .slice (some ⟨s.2.2, 0, none⟩) 2 2)])
    (fun s => pt s.2.2 t_api_Event (evC x1 ++ evC x2) :: rEs s.1 s.2.1 :: all (evF s.2.1) :: stM g gr gm 1 R1 K (pt g2 t_api_Event (evC x1) :: pt g3 t_api_Event (evC x2) :: pt gl1 t_int (ints [0, 0, 0]) :: pt gl2 t_int (ints [1, 0, 0]) :: F)) (fun s => s.2.1.map nE = [eA, fA].map nE) (fun s _ => ent_keep 11 [7, 8, 9, 10] rfl rfl) (fun J => ?_) (fun J => ?_) ?_
  · refine st_ops 5 4 _ rfl rfl ?_
    skip
    refine sd_call rfl rfl rfl rfl (Kept_S hsi.ok hsi.mK (by omega) hsi.srt hsi.prm) ?_
    rintro vk _ ⟨D, hD, rfl⟩
    refine ⟨ent_keep 10 [6, 7, 8, 9] rfl rfl, ?_⟩
    skip
    refine sd_ldA 0 rfl rfl rfl rfl rfl rfl (segO_all (by rw [x1l]; rfl)) rfl rfl ?_
    refine sd_ldA 1 rfl rfl rfl rfl rfl rfl (segO_all (by rw [x2l]; rfl)) rfl rfl ?_
    refine sd_lit2 rfl rfl rfl rfl rfl rfl rfl rfl rfl rfl x1l x2l (by decide) (ent_keep 10 [6, 7, 8, 9] rfl rfl) fun gl3 => ?_
    exact sd_nil (J (vk, D, gl3) _ _ hD ⟨rfl, rfl, rfl, rfl, rfl, rfl, rfl, trivial⟩ (Ent.refl _))
  · refine st_ops 6 3 _ rfl rfl ?_
    skip
    refine sd_ldA 0 rfl rfl rfl rfl rfl rfl (segO_all (by rw [x1l]; rfl)) rfl rfl ?_
    refine sd_ldA 1 rfl rfl rfl rfl rfl rfl (segO_all (by rw [x2l]; rfl)) rfl rfl ?_
    refine sd_lit2 rfl rfl rfl rfl rfl rfl rfl rfl rfl rfl x1l x2l (by decide) (ent_keep 8 [4, 5, 6, 7] rfl rfl) fun gl3 => ?_
    refine sd_nil (sn_tree (ent_keep 9 [5, 6, 7, 8] rfl rfl) ?_)
    refine st_ops 5 1 _ rfl rfl ?_
    skip
    refine sd_call rfl rfl rfl rfl ((Kept_S (F := pt gl3 t_api_Event (evC x1 ++ evC x2) :: pt g2 t_api_Event (evC x1) :: pt g3 t_api_Event (evC x2) :: pt gl1 t_int (ints [0, 0, 0]) :: pt gl2 t_int (ints [1, 0, 0]) :: F) hsi.ok hsi.mK (by omega) hsi.srt hsi.prm).ent (ent_keep 5 [1, 2, 3, 4, 0] rfl rfl)) ?_
    rintro vk _ ⟨D, hD, rfl⟩
    refine ⟨ent_keep 11 [7, 8, 9, 10] rfl rfl, ?_⟩
    exact sd_nil (J (vk, D, gl3) _ _ hD ⟨rfl, rfl, rfl, rfl, rfl, rfl, rfl, trivial⟩ (ent_keep 7 [6, 0, 1, 2, 3, 4, 5] rfl rfl))
  rintro ⟨vk, D, gl3⟩ hD
  dsimp only at hD ⊢
  have hDg : ∀ e ∈ D, EvG e := evG_map hsi.gL hD
  refine st_ops 9 4 _ rfl rfl ?_
  refine sd_callE rfl rfl rfl rfl ((SameEvents_S (m := [x1, x2]) (hD.trans (by rw [List.map_cons, List.map_cons, List.map_nil, List.map_cons, List.map_cons, List.map_nil, x1n, x2n]; rfl)) (rEs_el (k := 1) (j := 2) rfl rfl) (pt_el2 (j := 0) rfl xg1.m.l32 xg2.m.l32 (er1 (j := 9) rfl) (er2 (j := 10) rfl)) (fun e he => (hDg e he).o))) (ent_keep 11 [7, 8, 9, 10] rfl rfl) ?_
  ((iterate 3 refine sd_1 rfl (.inl rfl) ?_))
  refine sd_nil (sn_tree (ent_keep 11 [7, 8, 9, 10] rfl rfl) ?_)
  refine st_twoJ (S' := Nat × Nat) (fun s => [(1, .pointer (some ⟨g, 0, none⟩)), (2, .pointer (some ⟨g2, 0, none⟩)), (5, .int .i64 3), (29, .bool true), (30, .pointer (some ⟨g, 0, none⟩)), (31, .slice (some ⟨s.1, 0, none⟩) 3 3), (33, .slice (some ⟨s.2, 0, none⟩) 1 1)])
    (fun s => stM g gr gm 1 R1 K (pt s.1 t_int (ints [0, 0, 0]) :: pt s.2 t_api_Event (evC x1) :: pt g2 t_api_Event (evC x1) :: pt g3 t_api_Event (evC x2) :: pt gl1 t_int (ints [0, 0, 0]) :: pt gl2 t_int (ints [1, 0, 0]) :: F)) (fun _ => True) (fun s _ => ent_keep 10 [6, 7, 8, 9] rfl rfl) (fun J => ?_) (fun J => ?_) ?_
  · refine st_ops 13 3 _ rfl rfl ?_
    refine sd_lit [.int .i64 0, .int .i64 0, .int .i64 0] rfl rfl rfl rfl rfl rfl rfl rfl rfl rfl (ent_keep 11 [7, 8, 9, 10] rfl rfl) fun gl4 => ?_
    refine sd_ldA 0 rfl rfl rfl rfl rfl rfl (segO_all (by rw [x1l]; rfl)) rfl rfl ?_
    refine sd_lit1 rfl rfl rfl rfl rfl rfl rfl rfl x1l (by decide) (ent_keep 12 [8, 9, 10, 11] rfl rfl) fun gl5 => ?_
    exact sd_nil (J (gl4, gl5) _ _ trivial ⟨rfl, rfl, rfl, rfl, rfl, rfl, rfl, trivial⟩ (ent_keep 9 [5, 6, 7, 8, 1, 0] rfl rfl))
  · refine st_ops 14 2 _ rfl rfl ?_
    refine sd_ldA 0 rfl rfl rfl rfl rfl rfl (segO_all (by rw [x1l]; rfl)) rfl rfl ?_
    refine sd_lit1 rfl rfl rfl rfl rfl rfl rfl rfl x1l (by decide) (ent_keep 11 [7, 8, 9, 10] rfl rfl) fun gl5 => ?_
    refine sd_nil (sn_tree (ent_keep 12 [8, 9, 10, 11] rfl rfl) ?_)
    refine st_ops 13 1 _ rfl rfl ?_
    refine sd_lit [.int .i64 0, .int .i64 0, .int .i64 0] rfl rfl rfl rfl rfl rfl rfl rfl rfl rfl (ent_keep 12 [8, 9, 10, 11] rfl rfl) fun gl4 => ?_
    exact sd_nil (J (gl4, gl5) _ _ trivial ⟨rfl, rfl, rfl, rfl, rfl, rfl, rfl, trivial⟩ (ent_keep 9 [5, 6, 7, 8, 0, 1] rfl rfl))
  rintro ⟨gl4, gl5⟩ _
  dsimp only
  refine st_ops 16 30 _ rfl rfl ?_
  refine sd_call rfl rfl rfl rfl (gives_S (M := [x1]) (xs := [0, 0, 0]) hsi (by omega) (pt_vl (k := 3) (j := 0) rfl rfl (by decide)) (pt_el (j := 1) rfl xg1.m.l32 (er1 (j := 4) rfl)) (by rw [g1, List.map_cons, x1n]; rfl)) ?_
  rintro _ _ ⟨rfl, rfl⟩
  refine ⟨ent_keep 10 [6, 7, 8, 9] rfl rfl, ?_⟩
  refine sd_ent (G := stM g gr gm 1 R1 K (pt g2 t_api_Event (evC x1) :: pt g3 t_api_Event (evC x2) :: pt gl1 t_int (ints [0, 0, 0]) :: pt gl2 t_int (ints [1, 0, 0]) :: F)) (ent_keep 6 [0, 1, 2, 3] rfl rfl) ?_
  ((iterate 3 refine sd_1 rfl (.inl rfl) ?_))
  refine sd_lit [.int .i64 1, .int .i64 1, .int .i64 0] rfl rfl rfl rfl rfl rfl rfl rfl rfl rfl (ent_keep 8 [4, 5, 6, 7] rfl rfl) fun gl6 => ?_
  refine sd_call rfl rfl rfl rfl ((gives_S (F := pt gl6 t_int (ints [1, 1, 0]) :: pt g2 t_api_Event (evC x1) :: pt g3 t_api_Event (evC x2) :: pt gl1 t_int (ints [0, 0, 0]) :: pt gl2 t_int (ints [1, 0, 0]) :: F) (M := []) (xs := [1, 1, 0]) hsi (by omega) (pt_vl (k := 3) (j := 0) rfl rfl (by decide)) (fun w _ => ⟨SL.nil w 39, fun m hm => by cases hm⟩) g2').ent (ent_keep 5 [1, 2, 3, 4, 0] rfl rfl)) ?_
  rintro _ _ ⟨rfl, rfl⟩
  refine ⟨ent_keep 9 [5, 6, 7, 8] rfl rfl, ?_⟩
  refine sd_ent (G := stM g gr gm 1 R1 K (pt g2 t_api_Event (evC x1) :: pt g3 t_api_Event (evC x2) :: pt gl1 t_int (ints [0, 0, 0]) :: pt gl2 t_int (ints [1, 0, 0]) :: F)) (ent_keep 5 [0, 1, 2, 3] rfl rfl) ?_
  ((iterate 3 refine sd_1 rfl (.inl rfl) ?_))
  refine sd_lit [.int .i64 0, .int .i64 0, .int .i64 0] rfl rfl rfl rfl rfl rfl rfl rfl rfl rfl (ent_keep 8 [4, 5, 6, 7] rfl rfl) fun gl7 => ?_
  refine sd_call rfl rfl rfl rfl ((Seen_S (F := pt gl7 t_int (ints [0, 0, 0]) :: pt g2 t_api_Event (evC x1) :: pt g3 t_api_Event (evC x2) :: pt gl1 t_int (ints [0, 0, 0]) :: pt gl2 t_int (ints [1, 0, 0]) :: F) (xs := [0, 0, 0]) hsi.ok (pt_vl (k := 3) (j := 0) rfl rfl (by decide))).ent (ent_keep 5 [1, 2, 3, 4, 0] rfl rfl)) ?_
  rw [t1]
  rintro _ _ ⟨rfl, rfl⟩
  refine ⟨ent_keep 9 [5, 6, 7, 8] rfl rfl, ?_⟩
  refine sd_ent (G := stM g gr gm 1 R1 K (pt g2 t_api_Event (evC x1) :: pt g3 t_api_Event (evC x2) :: pt gl1 t_int (ints [0, 0, 0]) :: pt gl2 t_int (ints [1, 0, 0]) :: F)) (ent_keep 5 [0, 1, 2, 3] rfl rfl) ?_
  ((iterate 4 refine sd_1 rfl (.inl rfl) ?_))
  refine sd_lit [.int .i64 0] rfl rfl rfl rfl rfl rfl rfl rfl rfl rfl (ent_keep 8 [4, 5, 6, 7] rfl rfl) fun gl8 => ?_
  refine sd_call rfl rfl rfl rfl ((Seen_S (F := pt gl8 t_int (ints [0]) :: pt g2 t_api_Event (evC x1) :: pt g3 t_api_Event (evC x2) :: pt gl1 t_int (ints [0, 0, 0]) :: pt gl2 t_int (ints [1, 0, 0]) :: F) (xs := [0]) hsi.ok (pt_vl (k := 1) (j := 0) rfl rfl (by decide))).ent (ent_keep 5 [1, 2, 3, 4, 0] rfl rfl)) ?_
  rw [t2]
  rintro _ _ ⟨rfl, rfl⟩
  refine ⟨ent_keep 9 [5, 6, 7, 8] rfl rfl, ?_⟩
  refine sd_ent (G := stM g gr gm 1 R1 K (pt g2 t_api_Event (evC x1) :: pt g3 t_api_Event (evC x2) :: pt gl1 t_int (ints [0, 0, 0]) :: pt gl2 t_int (ints [1, 0, 0]) :: F)) (ent_keep 5 [0, 1, 2, 3] rfl rfl) ?_
  ((iterate 4 refine sd_1 rfl (.inl rfl) ?_))
  refine sd_lit [.int .i64 0, .int .i64 0, .int .i64 0] rfl rfl rfl rfl rfl rfl rfl rfl rfl rfl (ent_keep 8 [4, 5, 6, 7] rfl rfl) fun gl9 => ?_
  refine sd_callE rfl rfl rfl rfl ((made_S (deps := [0, 0, 0]))) (ent_keep 9 [5, 6, 7, 8] rfl rfl) ?_
  have k3' : keepB 1 R1 K (mkA 3 1 (.slice (some ⟨gl9, 0, none⟩) 3 3) [0, 0, 0]) = ((false, 25), false) := (hsi.keep 1 _).symm.trans k3
  have xg3 : EvG (mkA 3 1 (.slice (some ⟨gl9, 0, none⟩) 3 3) [0, 0, 0]) := mkA_g (by decide) (by decide) (by decide)
  refine sd_call rfl rfl rfl rfl ((keeps_S (F := pt gl9 t_int (ints [0, 0, 0]) :: pt g2 t_api_Event (evC x1) :: pt g3 t_api_Event (evC x2) :: pt gl1 t_int (ints [0, 0, 0]) :: pt gl2 t_int (ints [1, 0, 0]) :: F) hsi (by decide) xg3.dk (mkA_er (pt_vl (k := 3) (j := 0) rfl rfl (by decide))) xg3.m (by rw [k3'])).ent (ent_keep 5 [1, 2, 3, 4, 0] rfl rfl)) ?_
  rw [k3']
  rintro _ _ ⟨rfl, hF⟩
  obtain rfl := (hF.resolve_right fun q => by cases q.1).2
  refine ⟨ent_keep 9 [5, 6, 7, 8] rfl rfl, ?_⟩
  clear hF
  ((iterate 6 refine sd_1 rfl (.inl rfl) ?_))
  refine sd_nil (sn_last ?_)
  refine sn_ent (G := stM g gr gm 1 R1 K (pt g2 t_api_Event (evC x1) :: pt g3 t_api_Event (evC x2) :: pt gl1 t_int (ints [0, 0, 0]) :: pt gl2 t_int (ints [1, 0, 0]) :: F)) (ent_keep 5 [0, 1, 2, 3] rfl rfl) ?_
  (refine sn_then ?_; (iterate 2 refine sw_seq ?_); refine sw_region ?_; (iterate 4 refine so_1 rfl ?_))
  refine so_lit [.int .i64 1, .int .i64 1, .int .i64 0] rfl rfl rfl rfl rfl rfl rfl rfl rfl fun gm1 => ?_
  refine so_call rfl rfl rfl ((Seen_S (F := pt gm1 t_int (ints [1, 1, 0]) :: pt g2 t_api_Event (evC x1) :: pt g3 t_api_Event (evC x2) :: pt gl1 t_int (ints [0, 0, 0]) :: pt gl2 t_int (ints [1, 0, 0]) :: F) (xs := [1, 1, 0]) hsi.ok (pt_vl (k := 3) (j := 0) rfl rfl (by decide))).ent (ent_keep 5 [1, 2, 3, 4, 0] rfl rfl)) ?_
  rw [s2]
  rintro _ _ ⟨rfl, rfl⟩
  have hR2 : RowsOk R2 := by have := seenT_ok hsi.ok 2 [1, 1, 0]; rw [s2] at this; exact this
  have hR3 : RowsOk R3 := by have := seenT_ok hR2 3 [1, 0, 0]; rw [s3] at this; exact this
  refine so_ent (G := stM g gr gm 1 R2 K (pt g2 t_api_Event (evC x1) :: pt gl1 t_int (ints [0, 0, 0]) :: F)) (ent_keep 9 [0, 1, 2, 3, 5, 7] rfl rfl) ?_
  ((iterate 4 refine so_1 rfl ?_))
  refine so_lit [.int .i64 1, .int .i64 0, .int .i64 0] rfl rfl rfl rfl rfl rfl rfl rfl rfl fun gm2 => ?_
  refine so_call rfl rfl rfl ((Seen_S (F := pt gm2 t_int (ints [1, 0, 0]) :: pt g2 t_api_Event (evC x1) :: pt gl1 t_int (ints [0, 0, 0]) :: F) (xs := [1, 0, 0]) hR2 (pt_vl (k := 3) (j := 0) rfl rfl (by decide))).ent (ent_keep 5 [1, 2, 3, 4, 0] rfl rfl)) ?_
  rw [s3]
  rintro _ _ ⟨rfl, rfl⟩
  have hs3 := hsi.rows hR3
  refine so_ent (G := stM g gr gm 1 R3 K (pt g2 t_api_Event (evC x1) :: pt gl1 t_int (ints [0, 0, 0]) :: F)) (ent_keep 5 [0, 1, 2, 3] rfl rfl) ?_
  ((iterate 4 refine so_1 rfl ?_))
  refine so_call rfl rfl rfl (Bound_S hR3) ?_
  rintro bv _ rfl
  rw [b3]
  refine so_lit [.int .i64 1, .int .i64 0, .int .i64 0] rfl rfl rfl rfl rfl rfl rfl rfl rfl fun gm3 => ?_
  refine so_callE rfl rfl rfl (SameInts_S (ys := [1, 0, 0]) (vlZ (k := 1) rfl) (pt_vl (k := 3) (j := 0) rfl rfl (by decide))) ?_
  rw [decide_eq_true (rfl : ([1, 0, 0] : List Int) = [1, 0, 0])]
  refine so_ent (G := stM g gr gm 1 R3 K (pt g2 t_api_Event (evC x1) :: pt gl1 t_int (ints [0, 0, 0]) :: F)) (ent_keep 6 [2, 3, 4, 5] rfl rfl) ?_
  ((iterate 4 refine so_1 rfl ?_))
  refine so_call rfl rfl rfl (mCollect_S hs3.ok hs3.mK hs3.dk hs3.nd (by omega) hs3.srt hs3.prm) ?_
  rintro va _ ⟨G, K2, hG, hK2, rfl⟩
  have hs4 := hs3.rest (p := fun e => !stB R3 e) (fun e => rfl) hK2
  rw [f1] at hG
  rw [f2] at hs4
  have hGl : G.length = 1 := by have := congrArg List.length hG; rwa [List.length_map] at this
  refine so_fact (fun w H => (H.oat (k := 0) rfl).form) ?_
  rintro ⟨A9, c9, rfl, _, _, _⟩
  rw [hGl]
  refine so_ent (G := stM g gr gm 1 R3 K2 (pt g2 t_api_Event (evC x1) :: pt gl1 t_int (ints [0, 0, 0]) :: F)) (ent_keep 6 [2, 3, 4, 5] rfl rfl) ?_
  ((iterate 3 refine so_1 rfl ?_); refine so_nil ?_; refine sn_then ?_; refine sw_cond_f rfl ?_; refine sw_skip ?_; refine sn_then ?_; refine sw_seq ?_; refine sw_region ?_)
  refine so_call rfl rfl rfl (awake_S) ?_
  rintro _ _ ⟨rfl, rfl⟩
  have k4'' : keepB 1 R3 K2 x1 = ((false, 0), false) := (hs4.keep 1 _).symm.trans k4'
  ((iterate 2 refine so_1 rfl ?_))
  refine so_ldA 4 rfl rfl rfl rfl rfl rfl (segO_all (by rw [x1l]; rfl)) rfl ?_
  refine so_call rfl rfl rfl (keeps_S hs4 (by decide) xg1.dk (er1 (j := 1) rfl) xg1.m (by rw [k4''])) ?_
  rw [k4'']
  rintro _ _ ⟨rfl, hF⟩
  obtain rfl := (hF.resolve_right fun q => by cases q.1).2
  ((iterate 2 refine so_1 rfl ?_); refine so_nil ?_; refine sn_then ?_; refine sw_ret ?_)
  refine sn_ret rfl (.tmp rfl .nil) (ent_keep 6 [] rfl rfl) ?_
  exact ⟨rfl, rfl⟩
end
theorem walk_StableKnown {W : World} : Calls Try.prog n_entrepotlaw24_StableKnown #[] W (fun e w' => e = .returned (.bool true) ∧ Ext W w') := law_of (args := []) Known_S
end Go.Proofs.Ytajbpdmhpcpkgaa
/- Who has what, part twenty-six: StableActs. Conditions: none. -/
namespace Go.Proofs.Ytajbpdmhpcpkgaa
open Go Go.Eng Go.RowKit Go.WideMaps

abbrev rdAct : Rdg (Int × Int × Int × (Value × List Int) × ((Int × Int) × (Value × List Int) × Int × ByteArray × ByteArray × List Int × (Value × List (List Int)))) := rdN 1 (rdI .i64) (rdN 1 (rdI .i64) (rdN 1 (rdI .i64) (rdN 1 (rdL 1 (rdI .i64)) rdEv)))
def actOf (x : Int × Int × Int × (Value × List Int) × ((Int × Int) × (Value × List Int) × Int × ByteArray × ByteArray × List Int × (Value × List (List Int)))) : Ac := ⟨x.1, x.2.1, x.2.2.1, x.2.2.2.1.1, x.2.2.2.1.2, evOf x.2.2.2.2⟩
structure LAw (W : World) (v : Value) (l : List Ac) : Prop where
  la : LAs W v l
  ew : ∀ a ∈ l, EW a.e
theorem las_of_rd {W : World} {v : Value} {x : Value × List _} (h : rdL 43 rdAct W [v] x) : LAw W v (x.2.map actOf) := by
  obtain ⟨h1, h2, h3⟩ := rdL_flat (g := actOf) (f := acC) (p := fun a => VL (Value.int .i64) W a.v a.xs ∧ EW a.e ∧ ER W a.e) (fun cs x hx => by
    obtain ⟨⟨hx1, _⟩, ⟨hx2, _⟩, ⟨hx3, _⟩, hx4, hx5⟩ := hx
    obtain ⟨h1, h2, _⟩ := rdI_list hx4
    obtain ⟨h3, h4, h5⟩ := ev_of_rd hx5
    exact ⟨cut_eq hx1 (cut_eq hx2 (cut_eq hx3 (cut_eq h1 h3))), h2, h4, h5⟩) h
  simp only [List.cons.injEq, and_true] at h1
  subst h1
  exact ⟨⟨h2, fun a ha => (h3 a ha).1, fun a ha => (h3 a ha).2.2⟩, fun a ha => (h3 a ha).2.1⟩
section
variable {b : World} {F : List SP}
end
end Go.Proofs.Ytajbpdmhpcpkgaa
/- Who has what, part twenty-seven: StableLoads. Conditions: none. -/
namespace Go.Proofs.Ytajbpdmhpcpkgaa
open Go Go.Eng Go.RowKit Go.WideMaps

theorem RL.ext {w w' : World} {v : Value} {l : List (Value × List Int)} (h : RL w v l) (x : Ext w w') : RL w' v l := ⟨h.sl.ext x, fun m hm => (h.vl m hm).ext x⟩
section
variable {b : World} {F : List SP}
end
end Go.Proofs.Ytajbpdmhpcpkgaa
/- Who has what, part twenty-eight: StableNone. Conditions: none. -/
namespace Go.Proofs.Ytajbpdmhpcpkgaa
open Go Go.Eng Go.RowKit Go.WideMaps

end Go.Proofs.Ytajbpdmhpcpkgaa
/- Who has what, part twenty-nine: what all have, told; what a matrix comes to behind calls. Conditions: none. -/
namespace Go.Proofs.Ytajbpdmhpcpkgaa
open Go Go.Eng Go.RowKit Go.WideMaps

theorem nn_join (a c : List Int) (i : Nat) : nn (joinL a c) i = max (nn a i) (nn c i) := by
  by_cases hi : i < max a.length c.length
  · have hi' : i < (joinL a c).length := by rw [joinL_len]; exact hi
    rw [nn_in hi']
    simp only [pickL, List.getElem_map, List.getElem_range]
    have := nn_nonneg a i
    have := nn_nonneg c i
    omega
  · rw [nn_out (by rw [joinL_len]; omega), nn_out (by omega), nn_out (by omega)]; rfl
theorem nn_meet (a c : List Int) (i : Nat) : nn (meetL a c) i = min (nn a i) (nn c i) := by
  by_cases hi : i < max a.length c.length
  · have hi' : i < (meetL a c).length := by rw [meetL_len]; exact hi
    rw [nn_in hi']
    simp only [pickL, List.getElem_map, List.getElem_range]
    have := nn_nonneg a i
    have := nn_nonneg c i
    omega
  · rw [nn_out (by rw [meetL_len]; omega), nn_out (by omega), nn_out (by omega)]; rfl
theorem le_meets (x : Int) (i : Nat) : ∀ (R : List (List Int)) (r : List Int), x ≤ nn (R.foldl meetL r) i ↔ x ≤ nn r i ∧ ∀ q ∈ R, x ≤ nn q i
  | [], r => by simp
  | q :: R, r => by
    rw [List.foldl_cons, le_meets x i R (meetL r q), nn_meet]
    simp only [List.mem_cons, forall_eq_or_imp]
    constructor
    · rintro ⟨h1, h2⟩; exact ⟨by omega, by omega, h2⟩
    · rintro ⟨h1, h2, h3⟩; exact ⟨by omega, h3⟩
theorem le_bound {R : List (List Int)} (hR : R ≠ []) (x : Int) (i : Nat) : x ≤ nn (boundL R) i ↔ ∀ q ∈ R, x ≤ nn q i := by
  cases R with
  | nil => exact absurd rfl hR
  | cons r R =>
    rw [boundL, le_meets]
    simp only [List.mem_cons, forall_eq_or_imp]
theorem hasL_iff {xs : List Int} {r n : Int} : hasL xs r n = true ↔ 1 ≤ r ∧ 1 ≤ n ∧ n ≤ nn xs (r - 1).toNat := by
  unfold hasL atL
  simp only [Bool.and_eq_true, decide_eq_true_eq]
  constructor
  · rintro ⟨⟨h1, h2⟩, h3⟩
    split at h3
    · exact ⟨h1, h2, h3⟩
    · omega
  · rintro ⟨h1, h2, h3⟩
    refine ⟨⟨h1, h2⟩, ?_⟩
    split
    · exact h3
    · rw [nn_out (by omega)] at h3; exact h3
theorem hasL_bound {R : List (List Int)} (hR : R ≠ []) {r n : Int} (h : hasL (boundL R) r n = true) : ∀ q ∈ R, hasL q r n = true := fun q hq => by
  obtain ⟨h1, h2, h3⟩ := hasL_iff.1 h
  exact hasL_iff.2 ⟨h1, h2, (le_bound hR n _).1 h3 q hq⟩
theorem bound_seen {R : List (List Int)} (hR : RowsOk R) (r : Int) (v : List Int) : leqL (boundL R) (boundL (seenT R r v).2) = true := by
  have hne : R ≠ [] := fun e => by have := hR.n1; rw [e] at this; simp at this
  rw [leqL_iff]
  intro i
  have h0 : ∀ q ∈ R, nn (boundL R) i ≤ nn q i := (le_bound hne _ i).1 (Int.le_refl _)
  unfold seenT
  split
  · exact Int.le_refl _
  rename_i hq
  split
  · exact Int.le_refl _
  obtain ⟨r1, r2⟩ := regB_iff.1 (by simpa using hq)
  refine (le_bound (fun e => hne ?_) _ i).2 fun q hq => ?_
  · have := congrArg List.length e
    rw [List.length_set] at this
    exact List.eq_nil_of_length_eq_zero this
  · rcases List.mem_or_eq_of_mem_set hq with h | rfl
    · exact h0 q h
    · rw [nn_join]
      have hlt : r.toNat - 1 < R.length := by omega
      rw [List.getD_eq_getElem?_getD, List.getElem?_eq_getElem hlt]
      have := h0 _ (List.getElem_mem hlt)
      simp only [Option.getD_some]
      omega
/-- Events in order, reckoned. -/
def insE (S : List Ev) (x : Ev) : List Ev := S.takeWhile (fun s => !evLt x s) ++ x :: S.dropWhile (fun s => !evLt x s)
def srtE (l : List Ev) : List Ev := l.foldl insE []
theorem insE_ok {l S : List Ev} (ih : IsSort l S) (x : Ev) : IsSort (l ++ [x]) (insE S x) := by
  rw [insE]
  refine IsSort.ins (by rw [List.takeWhile_append_dropWhile]; exact ih) (fun s S' h => ?_) (fun t T h => ?_)
  · have hm : s ∈ S.takeWhile (fun s => !evLt x s) := by rw [h]; simp
    have := List.all_eq_true.1 (List.all_takeWhile (p := fun s => !evLt x s) (l := S)) s hm
    simpa using this
  · have := List.head_dropWhile_not (fun s => !evLt x s) (w := (by rw [h]; simp : S.dropWhile (fun s => !evLt x s) ≠ []))
    simp only [h, List.head_cons] at this
    simpa using this
theorem srt_all : ∀ (l p S : List Ev), IsSort p S → IsSort (p ++ l) (l.foldl insE S)
  | [], p, S, h => by rw [List.append_nil]; exact h
  | x :: l, p, S, h => by
    have := srt_all l (p ++ [x]) (insE S x) (insE_ok h x)
    rwa [List.append_assoc] at this
theorem srtE_ok (l : List Ev) : IsSort l (srtE l) := srt_all l [] [] .nil
theorem nE_nE (L K : List Ev) (h : ∀ y ∈ L, y ∈ K.map nE) : L.map nE = L := by
  rw [List.map_congr_left (g := id) fun y hy => ?_, List.map_id]
  obtain ⟨f, _, rfl⟩ := List.mem_map.1 (h y hy)
  rfl
theorem stI_srt {R : List (List Int)} {K : List Ev} (hR : RowsOk R) (hg : ∀ e ∈ K, EvG e) (hn : (K.map dotE).Nodup) : StI R K (srtE (K.map nE)) := by
  have hs := srtE_ok (K.map nE)
  have he : (srtE (K.map nE)).map nE = srtE (K.map nE) := nE_nE _ K fun y hy => hs.perm.mem_iff.1 hy
  exact ⟨hR, hg, hn, by rw [he]; exact lt_of_sort hs (by rw [dots_nE]; exact hn), by rw [he]; exact hs.perm⟩
/-- What a call makes of a matrix. -/
def askF (own : Int) (s : List (List Int) × List Ev) (a : Ac) : List (List Int) × List Ev :=
  if a.k = 0 then ((seenT s.1 a.r a.xs).2, s.2)
  else if a.k = 1 then (s.1, if (keepB own s.1 s.2 a.e).2 = true then s.2 ++ [nE a.e] else s.2)
  else if a.k = 2 then (s.1, (srtE s.2).filter fun e => !stB s.1 e)
  else s
def askT (n : Nat) (own : Int) (l : List Ac) : List (List Int) × List Ev := l.foldl (askF own) (List.replicate n (List.replicate n 0), [])
theorem askT_snoc (n : Nat) (own : Int) (l : List Ac) (a : Ac) : askT n own (l ++ [a]) = askF own (askT n own l) a := by simp [askT, List.foldl_append]
theorem keepB_K {own : Int} {R : List (List Int)} {K J : List Ev} {e : Ev} (h : K.map nE = J) : keepB own R J e = keepB own R K e := by
  unfold keepB
  rw [← h, findE_nE]
/-- A matrix behind calls. -/
structure SxK (n c : Nat) (R : List (List Int)) (K : List Ev) : Prop where
  ok : RowsOk R
  n : R.length = n
  g : ∀ e ∈ K, EvG e
  nd : (K.map dotE).Nodup
  c : K.length ≤ c
theorem SxK.i {n c : Nat} {R : List (List Int)} {K : List Ev} (h : SxK n c R K) : StI R K (srtE (K.map nE)) := stI_srt h.ok h.g h.nd
section
variable {b : World} {F : List SP} {va : Value} {LA : List Ac}
set_option maxRecDepth 20000 in
set_option maxHeartbeats 8000000 in
theorem asked_S {n : Nat} {own : Int} (hl : ∀ w, Sat b F w → LAs w va LA) (hw : ∀ a ∈ LA, EW a.e) (ha : ∀ a ∈ LA, AcOk a) (h30 : LA.length ≤ 30) (hnb : newB n own = true) :
    SC Try.prog n_entrepotlaw24_asked [.int .i64 n, .int .i64 own, va] b F (fun u F' => ∃ g gr gm K, u = .pointer (some ⟨g, 0, none⟩) ∧ K.map nE = (askT n own LA).2 ∧ SxK n LA.length (askT n own LA).1 K ∧ F' = stM g gr gm own (askT n own LA).1 K F) := by
  have h32 : ∀ a ∈ LA, a.e.id.length = 32 := fun a ha => (hw a ha).l32
  obtain ⟨a1, a2, a3, a4⟩ := newB_iff.1 hnb
  refine enterS F_entrepotlaw24_asked rfl rfl rfl ?_
  refine sw_fact (fun w H => sl_form (hl w H).sl) ?_
  rintro ⟨A0, c0, rfl, _, _, _, k4, _⟩
  (refine sw_seq ?_; refine sw_region ?_; refine so_1 rfl ?_; refine so_nil ?_; refine sn_then ?_; refine sw_seq ?_; refine sw_region ?_; (iterate 2 refine so_1 rfl ?_))
  refine so_call rfl rfl rfl (mNew_S hnb) ?_
  rintro _ _ ⟨g, gr, gm, rfl, rfl⟩
  ((iterate 5 refine so_1 rfl ?_); refine so_nil ?_; refine sn_then ?_; (iterate 2 refine sw_seq ?_); refine sw_region ?_; (iterate 2 refine so_1 rfl ?_); refine so_nil ?_; refine sn_then ?_; refine sw_cond_f rfl ?_; refine sw_skip ?_; refine sn_then ?_; (iterate 2 refine sw_seq ?_); refine sw_region ?_; refine so_1 rfl ?_; refine so_nil ?_; refine sn_then ?_; refine sw_block ?_)
  refine sw_loop (S := Nat × List (List Int) × List Ev) (fun s => [(2, .slice A0 LA.length c0), (7, .pointer (some ⟨g, 0, none⟩)), (9, .int .i64 (s.1 : Int))]) (fun s => stM g gr gm own s.2.1 s.2.2 F) (fun s => s.1 ≤ LA.length ∧ s.2.2.map nE = (askT n own (LA.take s.1)).2 ∧ s.2.1 = (askT n own (LA.take s.1)).1 ∧ SxK n s.1 s.2.1 s.2.2) (fun s => LA.length - s.1) (0, List.replicate n (List.replicate n 0), []) ⟨rfl, rfl, rfl, trivial⟩ (Ent.refl _) ⟨Nat.zero_le _, rfl, rfl, ⟨rows_zero a1 a2, by simp, (fun e he => by cases he), List.nodup_nil, Nat.zero_le _⟩⟩ ?_
  rintro ⟨i, R, K⟩ ⟨hi, hK, hR, hs⟩
  dsimp only at hi hK hR hs ⊢
  ((iterate 2 refine sw_seq ?_); refine sw_region ?_; (iterate 4 refine so_1 rfl ?_); refine so_nil ?_; refine sn_then ?_)
  refine sw_if rfl (fun h1 => ?_) (fun h1 => ?_)
  · have h1' : i < LA.length := by omega
    obtain ⟨gg, oo, rfl⟩ := k4 (by omega)
    have hmem := List.getElem_mem h1'
    have hsn : LA.take (i + 1) = LA.take i ++ [LA[i]] := List.take_succ_eq_append_getElem h1'
    have hc : ∀ w, Sat b F w → ∀ j, j < 43 → w.cell? ⟨gg, oo + i * 43 + j, none⟩ = (acC LA[i])[j]? := fun w H j hj => ac_cell (hl w H) h32 h1' hj
    have hvl : ∀ w, Sat b F w → VL (Value.int .i64) w LA[i].v LA[i].xs := fun w H => (hl w H).vl _ hmem
    have her : ∀ w, Sat b F w → ER w LA[i].e := fun w H => (hl w H).er _ hmem
    have hx32 := h32 _ hmem
    have hxg := (ha _ hmem).g (hw _ hmem)
    have hx20 := (ha _ hmem).1
    generalize LA[i] = a at *
    have hst : askT n own (LA.take (i + 1)) = askF own (R, (askT n own (LA.take i)).2) a := by rw [hsn, askT_snoc, hR]
    have xl := evC_len hx32
    have hsi := hs.i
    (refine sw_skip ?_; refine sn_then ?_; refine sw_seq ?_; refine sw_block ?_; refine sw_seq ?_; refine sw_region ?_; (iterate 2 refine so_1 rfl ?_); refine so_2 rfl (by omega) ?_; refine so_1 rfl ?_)
    refine so_rd rfl (fun w H => ex_load rfl rfl rfl (by rw [mulz_eq, Int.toNat_natCast]; exact hc w (H.ent (ent_keep 4 [] rfl rfl)) 0 (by decide))) rfl ?_
    (refine so_nil ?_; refine sn_then ?_; refine sw_block ?_; refine sw_seq ?_; refine sw_region ?_; (iterate 2 refine so_1 rfl ?_); refine so_nil ?_; refine sn_then ?_)
    refine sw_if rfl (fun q0 => ?_) (fun q0 => ?_)
    · rw [askF, if_pos q0] at hst
      skip
      refine sw_draw flo F (by decide +kernel) (ent_keep 4 [] rfl rfl) ?_
      ((iterate 3 refine sd_1 rfl (.inl rfl) ?_); refine sd_2 rfl rfl (by omega) ?_; refine sd_1 rfl (.inl rfl) ?_)
      refine sd_rd rfl (fun w H => ex_load rfl rfl rfl (by rw [mulz_eq, Int.toNat_natCast]; exact hc w H 1 (by decide))) rfl rfl ?_
      ((iterate 2 refine sd_1 rfl (.inl rfl) ?_); refine sd_2 rfl rfl (by omega) ?_; refine sd_1 rfl (.inl rfl) ?_)
      refine sd_rd rfl (fun w H => ex_load rfl rfl rfl (by rw [mulz_eq, Int.toNat_natCast]; exact hc w H 3 (by decide))) rfl rfl ?_
      refine sd_call rfl rfl rfl rfl (Seen_S hs.ok hvl) ?_
      rintro _ _ ⟨rfl, rfl⟩
      refine ⟨ent_keep 4 [] rfl rfl, ?_⟩
      skip
      refine sd_nil ?_
      ((iterate 2 refine sn_block ?_); refine sn_then ?_; refine sw_region ?_; refine so_1 rfl ?_; refine so_2 rfl (by (unfold I64; omega)) ?_; refine so_1 rfl ?_; refine so_nil ?_)
      rw [show (i : Int) + 1 = ((i + 1 : Nat) : Int) by omega]
      refine sn_round (i + 1, (seenT R a.r a.xs).2, K) ⟨rfl, rfl, rfl, trivial⟩ (Ent.refl _) ⟨h1', by dsimp only; rw [hst]; exact hK, by dsimp only; rw [hst], ⟨seenT_ok hs.ok _ _, by rw [seenT_len]; exact hs.n, hs.g, hs.nd, by have := hs.c; dsimp only; omega⟩⟩ (by dsimp only; omega)
    rw [askF, if_neg q0] at hst
    (refine sw_seq ?_; refine sw_region ?_; (iterate 2 refine so_1 rfl ?_); refine so_nil ?_; refine sn_then ?_)
    refine sw_if rfl (fun q1 => ?_) (fun q1 => ?_)
    · rw [if_pos q1] at hst
      (refine sw_region ?_; (iterate 3 refine so_1 rfl ?_); refine so_2 rfl (by omega) ?_; refine so_1 rfl ?_)
      refine so_rd rfl (fun w H => ex_loadN (cs := evC a.e) rfl rfl rfl xl (fun j hj => by rw [mulz_eq, Int.toNat_natCast, Nat.add_assoc, Nat.add_assoc]; rw [xl] at hj; exact (by have := hc w (H.ent (ent_keep 4 [] rfl rfl)) (4 + j) (by omega); rw [Nat.add_assoc] at this; exact this.trans acC_ev))) rfl ?_
      refine so_call rfl rfl rfl (Keep_S (e := a.e) hs.ok (by rw [hs.n]; exact regB_iff.2 ⟨a3, a4⟩) hsi.mK hxg.dk (up her (ent_keep 0 [] rfl rfl)) hxg.m) ?_
      rintro _ F2 ⟨rfl, hF2⟩
      rw [keepB_K hK] at hst
      obtain ⟨K2, hK2, hs2, rfl⟩ : ∃ K2, K2.map nE = (askT n own (LA.take (i + 1))).2 ∧ SxK n (i + 1) R K2 ∧ F2 = stM g gr gm own R K2 F := by
        rcases hF2 with ⟨h1, rfl⟩ | ⟨h1, y, hy, rfl⟩
        · rw [h1] at hst
          exact ⟨K, by rw [hst]; exact hK, ⟨hs.ok, hs.n, hs.g, hs.nd, by have := hs.c; omega⟩, rfl⟩
        · rw [h1] at hst
          refine ⟨K ++ [y], by rw [hst, List.map_append, hK, List.map_singleton, hy]; rfl, ⟨hs.ok, hs.n, fun f hf => ?_, nd_snoc hs.nd hy (keepB_new h1), by have := hs.c; rw [List.length_append, List.length_singleton]; omega⟩, rfl⟩
          rcases List.mem_append.1 hf with hf | hf
          · exact hs.g f hf
          · rw [List.mem_singleton.1 hf]; exact hxg.nE hy
      clear hF2
      have hR2 : R = (askT n own (LA.take (i + 1))).1 := by rw [hst]
      clear hst
      (refine so_nil ?_; (iterate 2 refine sn_block ?_); refine sn_then ?_; refine sw_region ?_; refine so_1 rfl ?_; refine so_2 rfl (by (unfold I64; omega)) ?_; refine so_1 rfl ?_; refine so_nil ?_)
      rw [show (i : Int) + 1 = ((i + 1 : Nat) : Int) by omega]
      exact sn_round (i + 1, R, K2) ⟨rfl, rfl, rfl, trivial⟩ (Ent.refl _) ⟨h1', hK2, hR2, hs2⟩ (by dsimp only; omega)
    rw [if_neg q1] at hst
    (refine sw_seq ?_; refine sw_region ?_; (iterate 2 refine so_1 rfl ?_); refine so_nil ?_; refine sn_then ?_)
    refine sw_if rfl (fun q2 => ?_) (fun q2 => ?_)
    · rw [if_pos q2] at hst
      (refine sw_region ?_; refine so_1 rfl ?_)
      refine so_call rfl rfl rfl (mCollect_S hs.ok hsi.mK hsi.dk hs.nd (by have := hs.c; omega) hsi.srt hsi.prm) ?_
      rintro vc _ ⟨G, K2, hG, hK2, rfl⟩
      have hst2 : ∀ e : Ev, stB R (nE e) = stB R e := fun _ => rfl
      have hsi2 := hsi.rest (p := fun e => !stB R e) (fun e => by rw [hst2]) hK2
      have he : (srtE (K.map nE)).map nE = srtE (K.map nE) := nE_nE _ K fun y hy => (srtE_ok (K.map nE)).perm.mem_iff.1 hy
      rw [he, hK] at hK2
      have hlen : K2.length ≤ K.length := by
        have h1 := congrArg List.length hK2
        rw [List.length_map] at h1
        have h2 := List.length_filter_le (fun e => !stB R e) (srtE (askT n own (LA.take i)).2)
        have h3 := (srtE_ok (askT n own (LA.take i)).2).perm.length_eq
        have h4 := congrArg List.length hK
        rw [List.length_map] at h4
        omega
      (refine so_nil ?_; (iterate 2 refine sn_block ?_); refine sn_then ?_; refine sw_region ?_; refine so_1 rfl ?_; refine so_2 rfl (by (unfold I64; omega)) ?_; refine so_1 rfl ?_; refine so_nil ?_)
      rw [show (i : Int) + 1 = ((i + 1 : Nat) : Int) by omega]
      exact sn_round (i + 1, R, K2) ⟨rfl, rfl, rfl, trivial⟩ (ent_keep 6 [2, 3, 4, 5] rfl rfl) ⟨h1', by dsimp only; rw [hst]; exact hK2, by dsimp only; rw [hst], ⟨hs.ok, hs.n, hsi2.g, hsi2.nd, by have := hs.c; dsimp only; omega⟩⟩ (by dsimp only; omega)
    · rw [if_neg q2] at hst
      (refine sw_skip ?_; (iterate 2 refine sn_block ?_); refine sn_then ?_; refine sw_region ?_; refine so_1 rfl ?_; refine so_2 rfl (by (unfold I64; omega)) ?_; refine so_1 rfl ?_; refine so_nil ?_)
      rw [show (i : Int) + 1 = ((i + 1 : Nat) : Int) by omega]
      exact sn_round (i + 1, R, K) ⟨rfl, rfl, rfl, trivial⟩ (Ent.refl _) ⟨h1', by dsimp only; rw [hst]; exact hK, by dsimp only; rw [hst], ⟨hs.ok, hs.n, hs.g, hs.nd, by have := hs.c; dsimp only; omega⟩⟩ (by dsimp only; omega)
  · obtain rfl : i = LA.length := by omega
    rw [List.take_length] at hK hR
    subst hR
    (refine sw_exit ?_; refine sn_then_exit ?_; refine sn_loop_exit ?_; refine sn_block_exit ?_; refine sn_then ?_; refine sw_seq ?_; refine sw_region ?_; (iterate 2 refine so_1 rfl ?_); refine so_nil ?_; refine sn_then ?_; refine sw_ret ?_)
    refine sn_ret rfl (.tmp rfl .nil) (Ent.refl _) ?_
    exact ⟨g, gr, gm, K, rfl, hK, hs, rfl⟩
end
end Go.Proofs.Ytajbpdmhpcpkgaa
/- Who has what, part thirty: StableGoes. Conditions: none. -/
namespace Go.Proofs.Ytajbpdmhpcpkgaa
open Go Go.Eng Go.RowKit Go.WideMaps

theorem Leq_S {b : World} {F : List SP} {va vb : Value} {xs ys : List Int} (ha : ∀ w, Sat b F w → VL (Value.int .i64) w va xs) (hb : ∀ w, Sat b F w → VL (Value.int .i64) w vb ys) : SC Try.prog n_vector_Leq [va, vb] b F (fun u F' => u = .bool (leqL xs ys) ∧ F' = F) :=
  SC.ofExt fun w H => Leq_spec (ha w H) (hb w H)
theorem giveT_ok {R : List (List Int)} {S : List Ev} {r most : Int} {ask : List Int} (h1 : regB R.length r = true) (h2 : numB R.length ask = true) : giveT R S r ask most = (giveL (joinL ask (R.getD (r.toNat - 1) [])) most S, 0) := by
  unfold giveT; rw [if_neg (by rw [h1]; simp), if_neg (by rw [h2]; simp)]
theorem give_same {R : List (List Int)} (hR : R ≠ []) {S : List Ev} {r most : Int} {ask : List Int} (h1 : regB R.length r = true) (h2 : numB R.length ask = true) : giveT R (S.filter fun e => !stB R e) r ask most = giveT R S r ask most := by
  rw [giveT_ok h1 h2, giveT_ok h1 h2]
  obtain ⟨r1, r2⟩ := regB_iff.1 h1
  have hlt : r.toNat - 1 < R.length := by omega
  have hm : R.getD (r.toNat - 1) [] ∈ R := by
    rw [List.getD_eq_getElem?_getD, List.getElem?_eq_getElem hlt]
    exact List.getElem_mem hlt
  unfold giveL
  rw [List.filter_filter]
  congr 2
  refine List.filter_congr fun e _ => ?_
  cases hb : stB R e with
  | false => simp
  | true =>
    have := hasL_bound hR (r := e.r) (n := e.n) hb _ hm
    rw [hasL_join, this]; simp
theorem numB_zero {n : Nat} : numB n (List.replicate n 0) = true := numB_iff.2 ⟨List.length_replicate, fun x hx => by rw [List.eq_of_mem_replicate hx]; omega⟩
theorem leqL_refl (xs : List Int) : leqL xs xs = true := (leqL_iff xs xs).2 fun _ => Int.le_refl _
section
variable {b : World} {F : List SP}
set_option maxRecDepth 20000 in
set_option maxHeartbeats 8000000 in
theorem walk_StableGoes {W : World} {n own : Int} {v v2 : Value} {L L2 : List Ac} (h : LAw W v L) (h2 : LAw W v2 L2) : Calls Try.prog n_entrepotlaw24_StableGoes #[.int .i64 n, .int .i64 own, v, v2] W (fun e w' => e = .returned (.bool true) ∧ Ext W w') := by
  refine law_of (args := [.int .i64 n, .int .i64 own, v, v2]) ?_
  have hl : ∀ {F : List SP} {k : Nat}, nth F k = some (Is W) → ∀ w, Sat W F w → LAs w v L := fun hk w H => h.la.ext (H.is hk)
  have hl2 : ∀ {F : List SP} {k : Nat}, nth F k = some (Is W) → ∀ w, Sat W F w → LAs w v2 L2 := fun hk w H => h2.la.ext (H.is hk)
  obtain ⟨A0, c0, rfl, _, _, _, k4, _⟩ := sl_form h.la.sl
  obtain ⟨A1, c1, rfl, _, _, _, k5, _⟩ := sl_form h2.la.sl
  refine enterS F_entrepotlaw24_StableGoes rfl rfl rfl ?_
  (refine sw_seq ?_; refine sw_region ?_; refine so_1 rfl ?_; refine so_nil ?_; refine sn_then ?_; refine sw_seq ?_; refine sw_region ?_)
  refine so_call rfl rfl rfl (Known_S) ?_
  rintro _ _ ⟨rfl, rfl⟩
  (refine so_1 rfl ?_; refine so_nil ?_; refine sn_then ?_; (iterate 2 refine sw_seq ?_); refine sw_region ?_; refine so_1 rfl ?_)
  refine so_call rfl rfl rfl (long_S (hl (k := 0) rfl) (fun a ha => (h.ew a ha).l32)) ?_
  rintro _ _ ⟨q, hq, rfl, rfl⟩
  cases q with
  | true =>
    ((iterate 4 refine so_1 rfl ?_); refine so_nil ?_; refine sn_then ?_; refine sw_cond_t rfl ?_; refine sw_seq ?_; refine sw_region ?_; (iterate 2 refine so_1 rfl ?_); refine so_nil ?_; refine sn_then ?_; refine sw_ret ?_; refine sn_then_ret ?_)
    refine sn_ret rfl (.tmp rfl .nil) (Ent.refl _) ?_
    exact ⟨rfl, rfl⟩
  | false =>
  obtain ⟨h30, hok⟩ := hq rfl
  ((iterate 2 refine so_1 rfl ?_))
  refine so_call rfl rfl rfl (long_S (hl2 (k := 0) rfl) (fun a ha => (h2.ew a ha).l32)) ?_
  rintro _ _ ⟨q, hq2, rfl, rfl⟩
  cases q with
  | true =>
    (refine so_1 rfl ?_; refine so_nil ?_; refine sn_then ?_; refine sw_cond_t rfl ?_; refine sw_seq ?_; refine sw_region ?_; (iterate 2 refine so_1 rfl ?_); refine so_nil ?_; refine sn_then ?_; refine sw_ret ?_; refine sn_then_ret ?_)
    refine sn_ret rfl (.tmp rfl .nil) (Ent.refl _) ?_
    exact ⟨rfl, rfl⟩
  | false =>
  obtain ⟨h230, hok2⟩ := hq2 rfl
  (refine so_1 rfl ?_; refine so_nil ?_; refine sn_then ?_; refine sw_cond_f rfl ?_; refine sw_skip ?_; refine sn_then ?_; refine sw_seq ?_; refine sw_region ?_; refine so_1 rfl ?_)
  refine so_callE rfl rfl rfl (Pick_S (by unfold I64; omega)) ?_
  rw [if_neg (by decide)]
  obtain ⟨N, hN, hN1, hN16⟩ : ∃ N : Nat, 1 + n % 16 = (N : Int) ∧ 1 ≤ N ∧ N ≤ 16 := ⟨(1 + n % 16).toNat, by omega, by omega, by omega⟩
  (refine so_2 rfl (by (unfold I64; omega)) ?_; refine so_1 rfl ?_; refine so_nil ?_; refine sn_then ?_; refine sw_seq ?_; refine sw_region ?_; (iterate 2 refine so_1 rfl ?_))
  rw [hN]
  skip
  refine so_callE rfl rfl rfl (Pick_S (by unfold I64; omega)) ?_
  rw [if_neg (by omega)]
  obtain ⟨O, hO, hO1, hO2⟩ : ∃ O : Int, 1 + own % (N : Int) = O ∧ 1 ≤ O ∧ O ≤ N := ⟨_, rfl, by have := Int.emod_nonneg own (show (N : Int) ≠ 0 by omega); omega, by have := Int.emod_lt_of_pos own (show (0 : Int) < N by omega); omega⟩
  have hO9 := Int.emod_nonneg own (show (N : Int) ≠ 0 by omega)
  have hO8 := Int.emod_lt_of_pos own (show (0 : Int) < N by omega)
  generalize own % (N : Int) = o9 at *
  (refine so_2 rfl (by (unfold I64; omega)) ?_; refine so_1 rfl ?_; refine so_nil ?_; refine sn_then ?_; refine sw_seq ?_; refine sw_region ?_; (iterate 3 refine so_1 rfl ?_))
  rw [hO]
  skip
  have hnb : newB N O = true := newB_iff.2 ⟨hN1, hN16, hO1, hO2⟩
  refine so_call rfl rfl rfl (asked_S (LA := L) (hl (k := 0) rfl) h.ew hok h30 hnb) ?_
  rintro _ _ ⟨g1, gr1, gm1, K1, rfl, hK1, hs1, rfl⟩
  ((iterate 3 refine so_1 rfl ?_))
  refine so_call rfl rfl rfl (asked_S (LA := L) (hl (k := 4) rfl) h.ew hok h30 hnb) ?_
  rintro _ _ ⟨g2, gr2, gm2, K2, rfl, hK2, hs2, rfl⟩
  have hsi1 := hs1.i
  have hsi2 := hs2.i
  have hKs : K1.map nE = K2.map nE := hK1.trans hK2.symm
  rw [← hKs] at hsi2
  generalize (askT N O L).1 = R at *
  have hne : R ≠ [] := fun e => by have := hs1.ok.n1; rw [e] at this; simp at this
  have hc1 := hs1.c
  have hc2 := hs2.c
  have hRN := hs1.n
  have heS : (srtE (K1.map nE)).map nE = srtE (K1.map nE) := nE_nE _ K1 fun y hy => (srtE_ok (K1.map nE)).perm.mem_iff.1 hy
  generalize srtE (K1.map nE) = S at *
  refine so_ent (G := stM g1 gr1 gm1 O R K1 (stM g2 gr2 gm2 O R K2 [Is W])) (ent_keep 8 [4, 5, 6, 7, 0, 1, 2, 3] rfl rfl) ?_
  ((iterate 2 refine so_1 rfl ?_); refine so_nil ?_; refine sn_then ?_; (iterate 2 refine sw_seq ?_); refine sw_region ?_; (iterate 6 refine so_1 rfl ?_); refine so_nil ?_; refine sn_then ?_; refine sw_cond_f rfl ?_; refine sw_skip ?_; refine sn_then ?_; refine sw_seq ?_; refine sw_region ?_; refine so_1 rfl ?_)
  refine so_call rfl rfl rfl (Bound_S hs1.ok) ?_
  rintro bv _ rfl
  refine so_ent (G := stM g1 gr1 gm1 O R K1 (stM g2 gr2 gm2 O R K2 (rZ bv (boundL R) :: [Is W]))) (ent_keep 9 [1, 2, 3, 4, 5, 6, 7, 8, 0] rfl rfl) ?_
  (refine so_1 rfl ?_; refine so_nil ?_; refine sn_then ?_; refine sw_seq ?_; refine sw_region ?_; refine so_1 rfl ?_)
  refine so_call rfl rfl rfl (mCollect_S hsi1.ok hsi1.mK hsi1.dk hsi1.nd (by omega) hsi1.srt hsi1.prm) ?_
  rintro gv _ ⟨G, K3, hG, hK3, rfl⟩
  have hsi3 := hsi1.rest (p := fun e => !stB R e) (fun e => rfl) hK3
  have hK3l : K3.length ≤ 30 := by
    have h1 := hsi3.len
    have h2 := List.length_filter_le (fun e => !stB R e) S
    have h3 := hsi1.len
    omega
  have hGg : ∀ e ∈ G, EvG e := evG_sub hsi1.gL fun y hy => by rw [hG] at hy; exact (List.mem_filter.1 hy).1
  have hGs : ∀ e ∈ G, stB R e = true := fun e he => by
    have : nE e ∈ G.map nE := List.mem_map_of_mem he
    rw [hG] at this
    exact (List.mem_filter.1 this).2
  refine so_fact (fun w H => (H.oat (k := 0) rfl).form) ?_
  rintro ⟨Ag, cg, rfl, _, _, q3⟩
  refine so_fact (p := ∀ e ∈ G, EvK e) (fun w H e he => by
    have := er_form (evF_er (k := 1) rfl he w H)
    exact ⟨(hGg e he).m.l32, this.1, this.2⟩) fun hGk => ?_
  refine so_ent (G := stM g1 gr1 gm1 O R K3 (stM g2 gr2 gm2 O R K2 (rZ bv (boundL R) :: rEs (.slice Ag G.length cg) G :: all (evF G) :: [Is W]))) (ent_keep 11 [2, 3, 4, 5, 6, 7, 8, 9, 10, 0, 1] rfl rfl) ?_
  (refine so_1 rfl ?_; refine so_nil ?_; refine sn_then ?_; refine sw_seq ?_; refine sw_region ?_; refine so_1 rfl ?_)
  refine so_call rfl rfl rfl (Rows_S hs1.ok) ?_
  rintro rv _ ⟨Lr, hLr, rfl⟩
  have hLrl : Lr.length = R.length := by have := congrArg List.length hLr; rwa [List.length_map] at this
  refine so_fact (fun w H => (H.oat (k := 0) rfl).form) ?_
  rintro ⟨Ar, cr, rfl, _, _, q4⟩
  refine so_ent (G := stM g1 gr1 gm1 O R K3 (stM g2 gr2 gm2 O R K2 (rZ bv (boundL R) :: rEs (.slice Ag G.length cg) G :: all (evF G) :: rRs (.slice Ar Lr.length cr) Lr :: all (vF Lr) :: [Is W]))) (ent_keep 13 [2, 3, 4, 5, 6, 7, 8, 9, 10, 11, 12, 0, 1] rfl rfl) ?_
  (refine so_1 rfl ?_; refine so_nil ?_; refine sn_then ?_; (iterate 2 refine sw_seq ?_); refine sw_region ?_; refine so_1 rfl ?_; refine so_nil ?_; refine sn_then ?_; refine sw_block ?_)
  refine sw_loop (S := Nat) (fun i => [(0, .int .i64 (N : Int)), (3, .slice A1 L2.length c1), (9, .bool true), (10, .pointer (some ⟨g1, 0, none⟩)), (11, .pointer (some ⟨g2, 0, none⟩)), (12, bv), (13, .slice Ag G.length cg), (14, .slice Ar Lr.length cr), (15, .int .i64 (i : Int))])
    (fun _ => stM g1 gr1 gm1 O R K3 (stM g2 gr2 gm2 O R K2 (rZ bv (boundL R) :: rEs (.slice Ag G.length cg) G :: all (evF G) :: rRs (.slice Ar Lr.length cr) Lr :: all (vF Lr) :: [Is W]))) (fun i => i ≤ G.length) (fun i => G.length - i) 0 ⟨rfl, rfl, rfl, rfl, rfl, rfl, rfl, rfl, rfl, trivial⟩ (Ent.refl _) (Nat.zero_le _) ?_
  intro i hi
  ((iterate 2 refine sw_seq ?_); refine sw_region ?_; (iterate 4 refine so_1 rfl ?_); refine so_nil ?_; refine sn_then ?_)
  refine sw_if rfl (fun h3 => ?_) (fun h3 => ?_)
  · have h3' : i < G.length := by omega
    obtain ⟨gg, oo, rfl⟩ := q3 (by omega)
    have hx := List.getElem?_eq_getElem h3'
    have fx := evs_seg hGk hx
    have hsb := hGs _ (List.getElem_mem h3')
    generalize G[i] = y at *
    have f2 := evs_two fx
    (refine sw_skip ?_; refine sn_then ?_; refine sw_seq ?_; refine sw_block ?_; refine sw_seq ?_; refine sw_region ?_; refine so_1 rfl ?_; refine so_nil ?_; refine sn_then ?_; refine sw_block ?_)
    refine sw_loop (S := Nat) (fun r => [(0, .int .i64 (N : Int)), (3, .slice A1 L2.length c1), (9, .bool true), (10, .pointer (some ⟨g1, 0, none⟩)), (11, .pointer (some ⟨g2, 0, none⟩)), (12, bv), (13, .slice (some ⟨gg, oo, none⟩) G.length cg), (14, .slice Ar Lr.length cr), (15, .int .i64 (i : Int)), (16, .int .i64 (r : Int))])
      (fun _ => stM g1 gr1 gm1 O R K3 (stM g2 gr2 gm2 O R K2 (rZ bv (boundL R) :: rEs (.slice (some ⟨gg, oo, none⟩) G.length cg) G :: all (evF G) :: rRs (.slice Ar Lr.length cr) Lr :: all (vF Lr) :: [Is W]))) (fun r => r ≤ Lr.length) (fun r => Lr.length - r) 0 ⟨rfl, rfl, rfl, rfl, rfl, rfl, rfl, rfl, rfl, rfl, trivial⟩ (Ent.refl _) (Nat.zero_le _) ?_
    intro r hr
    ((iterate 2 refine sw_seq ?_); refine sw_region ?_; (iterate 4 refine so_1 rfl ?_); refine so_nil ?_; refine sn_then ?_)
    refine sw_if rfl (fun h5 => ?_) (fun h5 => ?_)
    · have h5' : r < Lr.length := by omega
      obtain ⟨g4, o4, rfl⟩ := q4 (by omega)
      have hc : (Lr.map Prod.fst)[r]? = some Lr[r].1 := by rw [List.getElem?_map, List.getElem?_eq_getElem h5']; rfl
      have hmq := List.getElem_mem h5'
      have hhas : hasL Lr[r].2 y.r y.n = true := hasL_bound hne hsb _ (by rw [← hLr]; exact List.mem_map_of_mem hmq)
      generalize Lr[r] = p at *
      (refine sw_skip ?_; refine sn_then ?_; refine sw_seq ?_; refine sw_block ?_; refine sw_seq ?_)
      refine sw_draw flo _ (by decide +kernel) (Ent.refl _) ?_
      ((iterate 2 refine sd_1 rfl (.inl rfl) ?_); refine sd_2 rfl rfl (by omega) ?_)
      refine sd_rd rfl (fun w H => ex_load rfl rfl rfl (by rw [mulz_eq, Int.toNat_natCast, Nat.mul_one]; exact row_cell (k := 11) rfl hc w H)) rfl rfl ?_
      ((iterate 2 refine sd_1 rfl (.inl rfl) ?_); refine sd_2 rfl rfl (by omega) ?_; refine sd_1 rfl (.inl rfl) ?_)
      refine sd_ldrow 9 (i * 39) rfl rfl rfl rfl rfl rfl rfl rfl (by rw [mulz_eq, Int.toNat_natCast]; rfl) (by omega) f2 rfl ?_
      refine sd_callE rfl rfl rfl rfl ((Has_S (vF_vl (k := 12) rfl hmq))) (Ent.refl _) ?_
      rw [hhas]
      (refine sd_1 rfl (.inl rfl) ?_)
      refine sd_nil ?_
      (refine sn_then ?_; refine sw_cond_f rfl ?_; refine sw_skip ?_; refine sn_block ?_; refine sn_then ?_; refine sw_region ?_; refine so_1 rfl ?_; refine so_2 rfl (by (unfold I64; omega)) ?_; refine so_1 rfl ?_; refine so_nil ?_)
      rw [show (r : Int) + 1 = ((r + 1 : Nat) : Int) by omega]
      exact sn_round (r + 1) ⟨rfl, rfl, rfl, rfl, rfl, rfl, rfl, rfl, rfl, rfl, trivial⟩ (Ent.refl _) h5' (by omega)
    · (refine sw_exit ?_; refine sn_then_exit ?_; refine sn_loop_exit ?_; refine sn_block_exit ?_; refine sn_block ?_; refine sn_then ?_; refine sw_region ?_; refine so_1 rfl ?_; refine so_2 rfl (by (unfold I64; omega)) ?_; refine so_1 rfl ?_; refine so_nil ?_)
      rw [show (i : Int) + 1 = ((i + 1 : Nat) : Int) by omega]
      exact sn_round (i + 1) ⟨rfl, rfl, rfl, rfl, rfl, rfl, rfl, rfl, rfl, trivial⟩ (Ent.refl _) h3' (by omega)
  · (refine sw_exit ?_; refine sn_then_exit ?_; refine sn_loop_exit ?_; refine sn_block_exit ?_; refine sn_then ?_; refine sw_seq ?_; refine sw_region ?_; refine so_1 rfl ?_)
    clear hGk hGs hGg q3 q4 hG
    refine so_call rfl rfl rfl (Kept_S (K := K3) hsi3.ok hsi3.mK (by omega) hsi3.srt hsi3.prm) ?_
    rintro kv _ ⟨D, hD, rfl⟩
    have hDg : ∀ e ∈ D, EvG e := evG_map hsi3.gL hD
    have hDs : ∀ e ∈ D, stB R e = false := fun e he => by
      have : nE e ∈ D.map nE := List.mem_map_of_mem he
      rw [hD] at this
      obtain ⟨f, hf, hfe⟩ := List.mem_map.1 this
      have h5 := (List.mem_filter.1 hf).2
      have h6 : stB R f = stB R e := by rw [← show stB R (nE f) = stB R f from rfl, hfe]; rfl
      rw [h6] at h5
      simpa using h5
    refine so_fact (fun w H => (H.oat (k := 0) rfl).form) ?_
    rintro ⟨Ad, cd, rfl, _, _, q3⟩
    refine so_fact (p := ∀ e ∈ D, EvK e) (fun w H e he => by
      have := er_form (evF_er (k := 1) rfl he w H)
      exact ⟨(hDg e he).m.l32, this.1, this.2⟩) fun hDk => ?_
    refine so_ent (G := stM g1 gr1 gm1 O R K3 (stM g2 gr2 gm2 O R K2 (rZ bv (boundL R) :: rEs (.slice Ad D.length cd) D :: [Is W]))) (ent_keep 16 [2, 3, 4, 5, 6, 7, 8, 9, 10, 0, 15] rfl rfl) ?_
    (refine so_1 rfl ?_; refine so_nil ?_; refine sn_then ?_; (iterate 2 refine sw_seq ?_); refine sw_region ?_; refine so_1 rfl ?_; refine so_nil ?_; refine sn_then ?_; refine sw_block ?_)
    refine sw_loop (S := Nat) (fun i => [(0, .int .i64 (N : Int)), (3, .slice A1 L2.length c1), (9, .bool true), (10, .pointer (some ⟨g1, 0, none⟩)), (11, .pointer (some ⟨g2, 0, none⟩)), (12, bv), (17, .slice Ad D.length cd), (18, .int .i64 (i : Int))])
      (fun _ => stM g1 gr1 gm1 O R K3 (stM g2 gr2 gm2 O R K2 (rZ bv (boundL R) :: rEs (.slice Ad D.length cd) D :: [Is W]))) (fun i => i ≤ D.length) (fun i => D.length - i) 0 ⟨rfl, rfl, rfl, rfl, rfl, rfl, rfl, rfl, trivial⟩ (Ent.refl _) (Nat.zero_le _) ?_
    intro i hi
    ((iterate 2 refine sw_seq ?_); refine sw_region ?_; (iterate 4 refine so_1 rfl ?_); refine so_nil ?_; refine sn_then ?_)
    refine sw_if rfl (fun h5 => ?_) (fun h5 => ?_)
    · have h5' : i < D.length := by omega
      obtain ⟨gg, oo, rfl⟩ := q3 (by omega)
      have hx := List.getElem?_eq_getElem h5'
      have fx := evs_seg hDk hx
      have hsb : hasL (boundL R) D[i].r D[i].n = false := hDs _ (List.getElem_mem h5')
      generalize D[i] = y at *
      have f2 := evs_two fx
      (refine sw_skip ?_; refine sn_then ?_; refine sw_seq ?_; refine sw_block ?_; refine sw_seq ?_; refine sw_region ?_; (iterate 3 refine so_1 rfl ?_); refine so_2 rfl (by omega) ?_; refine so_1 rfl ?_)
      refine so_ldrow 9 (i * 39) rfl rfl rfl rfl rfl rfl rfl (by rw [mulz_eq, Int.toNat_natCast]; rfl) (by omega) f2 rfl ?_
      refine so_callE rfl rfl rfl (Has_S (vlZ (k := 8) rfl)) ?_
      rw [hsb]
      (refine so_nil ?_; refine sn_then ?_; refine sw_cond_f rfl ?_; refine sw_skip ?_; refine sn_block ?_; refine sn_then ?_; refine sw_region ?_; refine so_1 rfl ?_; refine so_2 rfl (by (unfold I64; omega)) ?_; refine so_1 rfl ?_; refine so_nil ?_)
      rw [show (i : Int) + 1 = ((i + 1 : Nat) : Int) by omega]
      exact sn_round (i + 1) ⟨rfl, rfl, rfl, rfl, rfl, rfl, rfl, rfl, trivial⟩ (Ent.refl _) h5' (by omega)
    (refine sw_exit ?_; refine sn_then_exit ?_; refine sn_loop_exit ?_; refine sn_block_exit ?_; refine sn_then ?_; refine sw_seq ?_; refine sw_region ?_; refine so_1 rfl ?_)
    refine so_make (sz := 1) (n := (List.replicate N (0 : Int)).length) (cs := ints (List.replicate N 0)) rfl rfl rfl rfl rfl rfl rfl rfl (by rw [List.length_replicate]) (by rw [List.length_replicate]; omega) (by exact (made_same (z := .int .i64 0) 0 rfl _).trans (by simp [ints])) fun ga => ?_
    refine so_ent (G := stM g1 gr1 gm1 O R K3 (stM g2 gr2 gm2 O R K2 [rZ bv (boundL R), rZ (.slice (some ⟨ga, 0, none⟩) (List.replicate N (0 : Int)).length (List.replicate N (0 : Int)).length) (List.replicate N 0), Is W])) (ent_keep 11 [1, 2, 3, 4, 5, 6, 7, 8, 9, 0] rfl rfl) ?_
    (refine so_1 rfl ?_; refine so_nil ?_; refine sn_then ?_; (iterate 2 refine sw_seq ?_); refine sw_region ?_; refine so_1 rfl ?_; refine so_nil ?_; refine sn_then ?_; refine sw_block ?_)
    refine sw_loop (S := Nat) (fun i => [(0, .int .i64 (N : Int)), (3, .slice A1 L2.length c1), (9, .bool true), (10, .pointer (some ⟨g1, 0, none⟩)), (11, .pointer (some ⟨g2, 0, none⟩)), (12, bv), (19, .slice (some ⟨ga, 0, none⟩) (List.replicate N (0 : Int)).length (List.replicate N (0 : Int)).length), (20, .int .i64 ((i : Int) + 1))])
      (fun _ => stM g1 gr1 gm1 O R K3 (stM g2 gr2 gm2 O R K2 [rZ bv (boundL R), rZ (.slice (some ⟨ga, 0, none⟩) (List.replicate N (0 : Int)).length (List.replicate N (0 : Int)).length) (List.replicate N 0), Is W])) (fun i => i ≤ N) (fun i => N - i) 0 ⟨rfl, rfl, rfl, rfl, rfl, rfl, rfl, rfl, trivial⟩ (Ent.refl _) (Nat.zero_le _) ?_
    intro i hi
    ((iterate 2 refine sw_seq ?_); refine sw_region ?_; (iterate 3 refine so_1 rfl ?_); refine so_nil ?_; refine sn_then ?_)
    refine sw_if rfl (fun h6 => ?_) (fun h6 => ?_)
    · have h6' : i < N := by omega
      have hr1 : regB R.length ((i : Int) + 1) = true := regB_iff.2 ⟨by omega, by omega⟩
      have hn1 : numB R.length (List.replicate N 0) = true := by rw [hRN]; exact numB_zero
      have hsame := give_same (S := S.map nE) (r := (i : Int) + 1) (most := 100) hne hr1 hn1
      rw [← flt_nE (fun e => !stB R e) (fun e => rfl) S] at hsame
      have hz := congrArg Prod.snd (giveT_ok (S := S.map nE) (most := 100) hr1 hn1)
      have hsub := giveT_sub R (S.map nE) ((i : Int) + 1) (List.replicate N 0) 100
      (refine sw_skip ?_; refine sn_then ?_; refine sw_seq ?_; refine sw_block ?_; refine sw_seq ?_; refine sw_region ?_; (iterate 3 refine so_1 rfl ?_))
      refine so_call rfl rfl rfl (Give_S (K := K3) hsi3.ok hsi3.mK (by omega) hsi3.srt hsi3.prm (vlZ (k := 5) rfl)) ?_
      rintro _ _ ⟨va, D1, rfl, hD1, rfl⟩
      refine so_ent (G := stM g2 gr2 gm2 O R K2 (stM g1 gr1 gm1 O R K3 [rZ bv (boundL R), rZ (.slice (some ⟨ga, 0, none⟩) (List.replicate N (0 : Int)).length (List.replicate N (0 : Int)).length) (List.replicate N 0), rEs va D1, all (evF D1), Is W])) (ent_keep 12 [6, 7, 8, 9, 2, 3, 4, 5, 10, 11, 0, 1] rfl rfl) ?_
      ((iterate 5 refine so_1 rfl ?_); refine so_nil ?_; refine sn_then ?_; refine sw_seq ?_; refine sw_region ?_; (iterate 3 refine so_1 rfl ?_))
      refine so_call rfl rfl rfl (Give_S (K := K2) hsi2.ok hsi2.mK (by omega) hsi2.srt hsi2.prm (vlZ (k := 5) rfl)) ?_
      rintro _ _ ⟨vb, D2, rfl, hD2, rfl⟩
      rw [hsame] at hD1 ⊢
      rw [hz]
      have hD1g : ∀ e ∈ D1, EvG e := evG_sub hsi1.gL fun y hy => by rw [hD1] at hy; exact hsub.mem hy
      ((iterate 5 refine so_1 rfl ?_); refine so_nil ?_; refine sn_then ?_; refine sw_seq ?_; refine sw_region ?_; (iterate 9 refine so_1 rfl ?_))
      refine so_callE rfl rfl rfl (SameEvents_S (hD1.trans hD2.symm) (rEs_el (k := 12) (j := 13) rfl rfl) (rEs_el (k := 0) (j := 1) rfl rfl) (fun e he => (hD1g e he).o)) ?_
      ((iterate 2 refine so_1 rfl ?_); refine so_nil ?_; refine sn_then ?_; refine sw_cond_f rfl ?_; refine sw_skip ?_; refine sn_block ?_; refine sn_then ?_; refine sw_region ?_; refine so_1 rfl ?_; refine so_2 rfl (by (unfold I64; omega)) ?_; refine so_1 rfl ?_; refine so_nil ?_)
      rw [show (i : Int) + 1 + 1 = ((i + 1 : Nat) : Int) + 1 by omega]
      exact sn_round (i + 1) ⟨rfl, rfl, rfl, rfl, rfl, rfl, rfl, rfl, trivial⟩ (ent_keep 14 [6, 7, 8, 9, 2, 3, 4, 5, 10, 11] rfl rfl) h6' (by omega)
    (refine sw_exit ?_; refine sn_then_exit ?_; refine sn_loop_exit ?_; refine sn_block_exit ?_; refine sn_then ?_; (iterate 2 refine sw_seq ?_); refine sw_region ?_; refine so_1 rfl ?_; refine so_nil ?_; refine sn_then ?_; refine sw_block ?_)
    refine sw_loop (S := Nat × List (List Int) × Value) (fun s => [(3, .slice A1 L2.length c1), (9, .bool true), (10, .pointer (some ⟨g1, 0, none⟩)), (12, s.2.2), (25, .int .i64 (s.1 : Int))])
      (fun s => stM g1 gr1 gm1 O s.2.1 K3 [rZ s.2.2 (boundL s.2.1), Is W]) (fun s => s.1 ≤ L2.length ∧ RowsOk s.2.1) (fun s => L2.length - s.1) (0, R, bv) ⟨rfl, rfl, rfl, rfl, rfl, trivial⟩ (ent_keep 10 [0, 1, 2, 3, 8] rfl rfl) ⟨Nat.zero_le _, hs1.ok⟩ ?_
    rintro ⟨i, Rc, bw⟩ ⟨hi, hRc⟩
    dsimp only at hi hRc ⊢
    ((iterate 2 refine sw_seq ?_); refine sw_region ?_; (iterate 4 refine so_1 rfl ?_); refine so_nil ?_; refine sn_then ?_)
    refine sw_if rfl (fun h7 => ?_) (fun h7 => ?_)
    · have h7' : i < L2.length := by omega
      obtain ⟨gg, oo, rfl⟩ := k5 (by omega)
      have hmem := List.getElem_mem h7'
      have hc : ∀ w, Sat W [Is W] w → ∀ j, j < 43 → w.cell? ⟨gg, oo + i * 43 + j, none⟩ = (acC L2[i])[j]? := fun w H j hj => ac_cell (hl2 (k := 0) rfl w H) (fun a ha => (h2.ew a ha).l32) h7' hj
      have hvl : ∀ w, Sat W [Is W] w → VL (Value.int .i64) w L2[i].v L2[i].xs := fun w H => (hl2 (k := 0) rfl w H).vl _ hmem
      generalize L2[i] = a at *
      (refine sw_skip ?_; refine sn_then ?_; refine sw_seq ?_; refine sw_block ?_; (iterate 2 refine sw_seq ?_); refine sw_region ?_; (iterate 2 refine so_1 rfl ?_); refine so_2 rfl (by omega) ?_; refine so_1 rfl ?_)
      refine so_rd rfl (fun w H => ex_load rfl rfl rfl (by rw [mulz_eq, Int.toNat_natCast]; exact hc w (H.ent (ent_keep 5 [] rfl rfl)) 0 (by decide))) rfl ?_
      (refine so_1 rfl ?_; refine so_nil ?_; refine sn_then ?_)
      refine sw_if rfl (fun q0 => ?_) (fun q0 => ?_)
      · have hRc2 := seenT_ok hRc a.r a.xs
        have hle := bound_seen hRc a.r a.xs
        skip
        refine sw_draw flo [Is W] (by decide +kernel) (ent_keep 5 [] rfl rfl) ?_
        ((iterate 3 refine sd_1 rfl (.inl rfl) ?_); refine sd_2 rfl rfl (by omega) ?_; refine sd_1 rfl (.inl rfl) ?_)
        refine sd_rd rfl (fun w H => ex_load rfl rfl rfl (by rw [mulz_eq, Int.toNat_natCast]; exact hc w H 1 (by decide))) rfl rfl ?_
        ((iterate 2 refine sd_1 rfl (.inl rfl) ?_); refine sd_2 rfl rfl (by omega) ?_; refine sd_1 rfl (.inl rfl) ?_)
        refine sd_rd rfl (fun w H => ex_load rfl rfl rfl (by rw [mulz_eq, Int.toNat_natCast]; exact hc w H 3 (by decide))) rfl rfl ?_
        refine sd_call rfl rfl rfl rfl (Seen_S hRc (up hvl (ent_keep 1 [] rfl rfl))) ?_
        rintro _ _ ⟨rfl, rfl⟩
        refine ⟨ent_keep 5 [] rfl rfl, ?_⟩
        skip
        refine sd_nil ?_
        (refine sn_then ?_; (iterate 2 refine sw_seq ?_); refine sw_region ?_; (iterate 2 refine so_1 rfl ?_))
        generalize (seenT Rc a.r a.xs).2 = Rn at *
        refine so_call rfl rfl rfl (Bound_S hRc2) ?_
        rintro b2 _ rfl
        refine so_callE rfl rfl rfl (Leq_S (vlZ (k := 5) rfl) (vlZ (k := 0) rfl)) ?_
        rw [hle]
        refine so_ent (G := stM g1 gr1 gm1 O Rn K3 [rZ bw (boundL Rc), Is W]) (ent_keep 6 [1, 2, 3, 4, 5] rfl rfl) ?_
        (refine so_1 rfl ?_; refine so_nil ?_; refine sn_then ?_; refine sw_cond_f rfl ?_; refine sw_skip ?_; refine sn_then ?_; refine sw_region ?_; refine so_1 rfl ?_)
        refine so_call rfl rfl rfl (Bound_S hRc2) ?_
        rintro b3 _ rfl
        (refine so_1 rfl ?_; refine so_nil ?_; refine sn_block ?_; refine sn_then ?_; refine sw_region ?_; refine so_1 rfl ?_; refine so_2 rfl (by (unfold I64; omega)) ?_; refine so_1 rfl ?_; refine so_nil ?_)
        rw [show (i : Int) + 1 = ((i + 1 : Nat) : Int) by omega]
        exact sn_round (i + 1, Rn, b3) ⟨rfl, rfl, rfl, rfl, rfl, trivial⟩ (ent_keep 6 [1, 2, 3, 4, 0] rfl rfl) ⟨h7', hRc2⟩ (by dsimp only; omega)
      · (refine sw_skip ?_; refine sn_then ?_; (iterate 2 refine sw_seq ?_); refine sw_region ?_; (iterate 2 refine so_1 rfl ?_))
        refine so_call rfl rfl rfl (Bound_S hRc) ?_
        rintro b2 _ rfl
        refine so_callE rfl rfl rfl (Leq_S (vlZ (k := 5) rfl) (vlZ (k := 0) rfl)) ?_
        rw [leqL_refl]
        refine so_ent (G := stM g1 gr1 gm1 O Rc K3 [rZ bw (boundL Rc), Is W]) (ent_keep 6 [1, 2, 3, 4, 5] rfl rfl) ?_
        (refine so_1 rfl ?_; refine so_nil ?_; refine sn_then ?_; refine sw_cond_f rfl ?_; refine sw_skip ?_; refine sn_then ?_; refine sw_region ?_; refine so_1 rfl ?_)
        refine so_call rfl rfl rfl (Bound_S hRc) ?_
        rintro b3 _ rfl
        (refine so_1 rfl ?_; refine so_nil ?_; refine sn_block ?_; refine sn_then ?_; refine sw_region ?_; refine so_1 rfl ?_; refine so_2 rfl (by (unfold I64; omega)) ?_; refine so_1 rfl ?_; refine so_nil ?_)
        rw [show (i : Int) + 1 = ((i + 1 : Nat) : Int) by omega]
        exact sn_round (i + 1, Rc, b3) ⟨rfl, rfl, rfl, rfl, rfl, trivial⟩ (ent_keep 6 [1, 2, 3, 4, 0] rfl rfl) ⟨h7', hRc⟩ (by dsimp only; omega)
    · (refine sw_exit ?_; refine sn_then_exit ?_; refine sn_loop_exit ?_; refine sn_block_exit ?_; refine sn_then ?_; refine sw_seq ?_; refine sw_region ?_; (iterate 2 refine so_1 rfl ?_); refine so_nil ?_; refine sn_then ?_; refine sw_ret ?_)
      refine sn_ret rfl (.tmp rfl .nil) (ent_keep 5 [] rfl rfl) ?_
      exact ⟨rfl, rfl⟩
end
end Go.Proofs.Ytajbpdmhpcpkgaa
/- Who has what, part thirty-one: StableGives. Conditions: none. -/
namespace Go.Proofs.Ytajbpdmhpcpkgaa
open Go Go.Eng Go.RowKit Go.WideMaps

/-- What only yields a value, reads apart. -/
def flL (o : Oper) : Bool := flo o && match o.op with | .load .. => false | _ => true
theorem filter_at {α : Type} {p : α → Bool} : ∀ {l : List α} {i : Nat} {x : α}, l[i]? = some x → p x = true → (l.filter p)[((l.take i).filter p).length]? = some x
  | [], i, x, h, _ => by simp at h
  | y :: l, 0, x, h, hp => by
    simp only [List.getElem?_cons_zero, Option.some.injEq] at h
    subst h
    simp [hp]
  | y :: l, i + 1, x, h, hp => by
    simp only [List.getElem?_cons_succ] at h
    have ih := filter_at h hp
    cases hy : p y with
    | true => simp [hy, ih]
    | false => simp [hy, ih]
section
variable {P : Program} {tt : Nat → Option TI} [TT P tt] {fl : Oper → Bool} {ro : Option Nat} {N d kk : Nat} {l rest : List Oper} {Q : Exit → Act → World → Prop} {E : List (Nat × Value)} {ds : List Deferred} {b : World} {F F0 : List SP} {op : Op} {ty : TypeId} {pos : String} {aft : Array Edge} {g : Option (Nat × Bool)} {v : Value}
theorem sd_ldE (hg : wants l E g = some true) (hf : fl ⟨some d, op, ty, pos, aft, g⟩ = false) (hx : ∀ w, Sat b F w → Ex P E op ty w v w) (hd : Nat.blt d N = true) (hE : Ent F F0) (h : SD P fl ro N F0 l (kk + 1) rest Q ((d, v) :: E) ds b F) :
    SD P fl ro N F0 l kk (⟨some d, op, ty, pos, aft, g⟩ :: rest) Q E ds b F :=
  sd_ef (p := fun u G => u = v ∧ G = F) hg hf (fun w H => ⟨v, w, F, hx w H, H, rfl, rfl⟩) hd fun u G hp => by
    obtain ⟨rfl, rfl⟩ := hp
    exact ⟨hE, h⟩
end
section
variable {b : World} {F : List SP}
set_option maxRecDepth 20000 in
set_option maxHeartbeats 8000000 in
theorem walk_StableGives {W : World} {n own r most : Int} {v va : Value} {L : List Ac} {xs : List Int} (h : LAw W v L) (hv : VL (Value.int .i64) W va xs) : Calls Try.prog n_entrepotlaw24_StableGives #[.int .i64 n, .int .i64 own, .int .i64 r, v, va, .int .i64 most] W (fun e w' => e = .returned (.bool true) ∧ Ext W w') := by
  refine law_of (args := [.int .i64 n, .int .i64 own, .int .i64 r, v, va, .int .i64 most]) ?_
  have hl : ∀ {F : List SP} {k : Nat}, nth F k = some (Is W) → ∀ w, Sat W F w → LAs w v L := fun hk w H => h.la.ext (H.is hk)
  obtain ⟨A0, c0, rfl, _, _, _, k4, _⟩ := sl_form h.la.sl
  obtain ⟨A1, c1, rfl, _, _, _, k5⟩ := hv.form
  have hvl : ∀ {F : List SP} {k : Nat}, nth F k = some (Is W) → ∀ w, Sat W F w → VL (Value.int .i64) w (.slice A1 xs.length c1) xs := fun hk => is_vl hv hk
  refine enterS F_entrepotlaw24_StableGives rfl rfl rfl ?_
  (refine sw_seq ?_; refine sw_region ?_; refine so_1 rfl ?_; refine so_nil ?_; refine sn_then ?_; refine sw_seq ?_; refine sw_region ?_)
  refine so_call rfl rfl rfl (Known_S) ?_
  rintro _ _ ⟨rfl, rfl⟩
  (refine so_1 rfl ?_; refine so_nil ?_; refine sn_then ?_; (iterate 2 refine sw_seq ?_); refine sw_region ?_; refine so_1 rfl ?_)
  refine so_call rfl rfl rfl (long_S (hl (k := 0) rfl) (fun a ha => (h.ew a ha).l32)) ?_
  rintro _ _ ⟨q, hq, rfl, rfl⟩
  cases q with
  | true =>
    ((iterate 5 refine so_1 rfl ?_); refine so_nil ?_; refine sn_then ?_; refine sw_cond_t rfl ?_; refine sw_seq ?_; refine sw_region ?_; (iterate 2 refine so_1 rfl ?_); refine so_nil ?_; refine sn_then ?_; refine sw_ret ?_; refine sn_then_ret ?_)
    refine sn_ret rfl (.tmp rfl .nil) (Ent.refl _) ?_
    exact ⟨rfl, rfl⟩
  | false =>
  obtain ⟨h30, hok⟩ := hq rfl
  ((iterate 5 refine so_1 rfl ?_); refine so_nil ?_; refine sn_then ?_)
  refine sw_if rfl (fun h16 => ?_) (fun h16 => ?_)
  · (refine sw_seq ?_; refine sw_region ?_; (iterate 2 refine so_1 rfl ?_); refine so_nil ?_; refine sn_then ?_; refine sw_ret ?_; refine sn_then_ret ?_)
    refine sn_ret rfl (.tmp rfl .nil) (Ent.refl _) ?_
    exact ⟨rfl, rfl⟩
  (refine sw_skip ?_; refine sn_then ?_; refine sw_seq ?_; refine sw_region ?_; refine so_1 rfl ?_)
  refine so_callE rfl rfl rfl (Pick_S (by unfold I64; omega)) ?_
  rw [if_neg (by decide)]
  obtain ⟨N, hN, hN1, hN16⟩ : ∃ N : Nat, 1 + n % 16 = (N : Int) ∧ 1 ≤ N ∧ N ≤ 16 := ⟨(1 + n % 16).toNat, by omega, by omega, by omega⟩
  (refine so_2 rfl (by (unfold I64; omega)) ?_; refine so_1 rfl ?_; refine so_nil ?_; refine sn_then ?_; refine sw_seq ?_; refine sw_region ?_; (iterate 2 refine so_1 rfl ?_))
  rw [hN]
  skip
  refine so_callE rfl rfl rfl (Pick_S (by unfold I64; omega)) ?_
  rw [if_neg (by omega)]
  have hO9 := Int.emod_nonneg own (show (N : Int) ≠ 0 by omega)
  have hO8 := Int.emod_lt_of_pos own (show (0 : Int) < N by omega)
  generalize own % (N : Int) = o9 at *
  (refine so_2 rfl (by (unfold I64; omega)) ?_; (iterate 2 refine so_1 rfl ?_))
  refine so_callE rfl rfl rfl (Pick_S (by unfold I64; omega)) ?_
  rw [if_neg (by omega)]
  have hQ9 := Int.emod_nonneg r (show (N : Int) ≠ 0 by omega)
  have hQ8 := Int.emod_lt_of_pos r (show (0 : Int) < N by omega)
  generalize r % (N : Int) = r9 at *
  (refine so_2 rfl (by (unfold I64; omega)) ?_; (iterate 2 refine so_1 rfl ?_); refine so_nil ?_; refine sn_then ?_; refine sw_seq ?_; refine sw_region ?_; (iterate 3 refine so_1 rfl ?_))
  obtain ⟨O, hO, hO1, hO2⟩ : ∃ O : Int, 1 + o9 = O ∧ 1 ≤ O ∧ O ≤ N := ⟨_, rfl, by omega, by omega⟩
  rw [hO]
  obtain ⟨q0, hq0, hq1⟩ : ∃ q0 : Nat, 1 + r9 = (q0 : Int) + 1 ∧ q0 < N := ⟨r9.toNat, by omega, by omega⟩
  rw [hq0]
  have hnb : newB N O = true := newB_iff.2 ⟨hN1, hN16, hO1, hO2⟩
  refine so_call rfl rfl rfl (asked_S (LA := L) (hl (k := 0) rfl) h.ew hok h30 hnb) ?_
  rintro _ _ ⟨g1, gr1, gm1, K1, rfl, hK1, hs1, rfl⟩
  have hsi1 := hs1.i
  generalize (askT N O L).1 = R at *
  have hc1 := hs1.c
  have hRN := hs1.n
  have heS : (srtE (K1.map nE)).map nE = srtE (K1.map nE) := nE_nE _ K1 fun y hy => (srtE_ok (K1.map nE)).perm.mem_iff.1 hy
  generalize srtE (K1.map nE) = S at *
  (refine so_1 rfl ?_; refine so_nil ?_; refine sn_then ?_; (iterate 2 refine sw_seq ?_); refine sw_region ?_; (iterate 2 refine so_1 rfl ?_); refine so_nil ?_; refine sn_then ?_; refine sw_cond_f rfl ?_; refine sw_skip ?_; refine sn_then ?_; refine sw_seq ?_; refine sw_region ?_; refine so_1 rfl ?_)
  refine so_make (sz := 1) (n := N) (cs := ints (List.replicate N 0)) rfl rfl rfl rfl rfl rfl rfl rfl rfl (by omega) (by exact (made_same (z := .int .i64 0) 0 rfl _).trans (by simp [ints])) fun ga => ?_
  refine so_ent (G := stM g1 gr1 gm1 O R K1 [row t_int 1 (.slice (some ⟨ga, 0, none⟩) N N) N (ints (List.replicate N 0)), Is W]) (ent_keep 5 [1, 2, 3, 4, 0] rfl rfl) ?_
  (refine so_1 rfl ?_)
  refine so_nil (sn_then ?_)
  refine sw_mid (S := List Int) (fun _ => [(2, .int .i64 ((q0 : Int) + 1)), (5, .int .i64 most), (13, .bool true), (14, .pointer (some ⟨g1, 0, none⟩)), (15, .slice (some ⟨ga, 0, none⟩) N N)])
    (fun V => stM g1 gr1 gm1 O R K1 [row t_int 1 (.slice (some ⟨ga, 0, none⟩) N N) N (ints V), Is W]) (fun V => V.length = N ∧ ∀ x ∈ V, 0 ≤ x ∧ x ≤ 1048576) ?_ ?_
  · (refine sw_seq ?_; refine sw_region ?_; refine so_1 rfl ?_; refine so_nil ?_; refine sn_then ?_; refine sw_block ?_)
    refine sw_loop (S := Nat × List Int) (fun s => [(0, .int .i64 (N : Int)), (2, .int .i64 ((q0 : Int) + 1)), (4, .slice A1 xs.length c1), (5, .int .i64 most), (13, .bool true), (14, .pointer (some ⟨g1, 0, none⟩)), (15, .slice (some ⟨ga, 0, none⟩) N N), (16, .int .i64 (s.1 : Int))])
      (fun s => stM g1 gr1 gm1 O R K1 [row t_int 1 (.slice (some ⟨ga, 0, none⟩) N N) N (ints s.2), Is W]) (fun s => s.1 ≤ N ∧ s.2.length = N ∧ ∀ x ∈ s.2, 0 ≤ x ∧ x ≤ 1048576) (fun s => N - s.1) (0, List.replicate N 0) ⟨rfl, rfl, rfl, rfl, rfl, rfl, rfl, rfl, trivial⟩ (Ent.refl _) ⟨Nat.zero_le _, List.length_replicate, fun x hx => by rw [List.eq_of_mem_replicate hx]; omega⟩ ?_
    rintro ⟨i, V⟩ ⟨hi, hV, hV2⟩
    dsimp only at hi hV hV2 ⊢
    ((iterate 2 refine sw_seq ?_); refine sw_region ?_; (iterate 4 refine so_1 rfl ?_))
    by_cases h5 : (i : Int) < N ∧ (i : Int) < xs.length
    · have h5' : i < xs.length := by omega
      refine so_know 56 (.bool true) rfl (congrArg Value.bool (decide_eq_true h5.1)) ?_
      ((iterate 5 refine so_1 rfl ?_); refine so_nil ?_; refine sn_then ?_)
      refine sw_if rfl (fun _ => ?_) (fun h6 => absurd h5.2 h6)
      obtain ⟨gg, oo, rfl⟩ := k5 (by omega)
      have hc : ∀ w, Sat W [Is W] w → w.cell? ⟨gg, oo + i, none⟩ = some (.int .i64 xs[i]) := fun w H => VL.at (hvl (k := 0) rfl w H) i h5'
      generalize xs[i] = x at *
      (refine sw_skip ?_; refine sn_then ?_; refine sw_seq ?_; refine sw_block ?_; refine sw_region ?_; (iterate 4 refine so_1 rfl ?_); refine so_2 rfl (by omega) ?_)
      refine so_rd rfl (fun w H => ex_load rfl rfl rfl (by rw [mulz_eq, Int.toNat_natCast, Nat.mul_one]; exact hc w (H.ent (ent_keep 5 [] rfl rfl)))) rfl ?_
      refine so_callE rfl rfl rfl (Pick_S (by unfold I64; omega)) ?_
      rw [if_neg (by decide)]
      have hx1 := Int.emod_nonneg x (show (100 : Int) ≠ 0 by omega)
      have hx2 := Int.emod_lt_of_pos x (show (0 : Int) < 100 by omega)
      generalize x % 100 = z at *
      have hset : spl (ints V) i [.int .i64 z] = ints (V.set i z) := by
        rw [spl, ints, ints, List.map_set, List.set_eq_take_append_cons_drop, if_pos (by rw [List.length_map]; omega)]; simp
      (refine so_2 rfl (by omega) ?_)
      refine so_strow 4 i rfl rfl rfl rfl rfl rfl rfl rfl hset rfl (by rw [mulz_eq, Int.toNat_natCast, Nat.mul_one]) (by simp [ints]; omega) (by simp [Value.oneCell']) ?_
      (refine so_nil ?_; refine sn_block ?_; refine sn_then ?_; refine sw_region ?_; refine so_1 rfl ?_; refine so_2 rfl (by (unfold I64; omega)) ?_; refine so_1 rfl ?_; refine so_nil ?_)
      rw [show (i : Int) + 1 = ((i + 1 : Nat) : Int) by omega]
      refine sn_round (i + 1, V.set i z) ⟨rfl, rfl, rfl, rfl, rfl, rfl, rfl, rfl, trivial⟩ (Ent.refl _) ⟨by dsimp only; omega, by dsimp only; rw [List.length_set]; exact hV, fun y hy => ?_⟩ (by dsimp only; omega)
      rcases List.mem_or_eq_of_mem_set hy with hy | rfl
      · exact hV2 y hy
      · omega
    · by_cases h6 : (i : Int) < N
      · refine so_know 56 (.bool true) rfl (congrArg Value.bool (decide_eq_true h6)) ?_
        ((iterate 5 refine so_1 rfl ?_); refine so_nil ?_; refine sn_then ?_)
        refine sw_if rfl (fun h7 => absurd ⟨h6, h7⟩ h5) (fun _ => ?_)
        (refine sw_exit ?_; refine sn_then_exit ?_; refine sn_loop_exit ?_; refine sn_block_exit ?_)
        exact sn_mid V ⟨rfl, rfl, rfl, rfl, rfl, trivial⟩ (Ent.refl _) ⟨hV, hV2⟩
      · refine so_know 56 (.bool false) rfl (congrArg Value.bool (decide_eq_false h6)) ?_
        ((iterate 5 refine so_1 rfl ?_); refine so_nil ?_; refine sn_then ?_; refine sw_cond_f rfl ?_; refine sw_exit ?_; refine sn_then_exit ?_; refine sn_loop_exit ?_; refine sn_block_exit ?_)
        exact sn_mid V ⟨rfl, rfl, rfl, rfl, rfl, trivial⟩ (Ent.refl _) ⟨hV, hV2⟩
  rintro V ⟨hV, hV2⟩
  have hvV : ∀ {F : List SP} {j : Nat}, nth F j = some (row t_int 1 (.slice (some ⟨ga, 0, none⟩) N N) N (ints V)) → ∀ w, Sat W F w → VL (Value.int .i64) w (.slice (some ⟨ga, 0, none⟩) N N) V := fun hj w H => by
    have := (H.oat hj).sl
    rw [VL, hV]; exact this
  have hr1 : regB R.length ((q0 : Int) + 1) = true := regB_iff.2 ⟨by omega, by omega⟩
  have hn1 : numB R.length V = true := numB_iff.2 ⟨by rw [hV, hRN], hV2⟩
  have hT1 := giveT_ok (S := S.map nE) (most := 100) hr1 hn1
  have hT2 := giveT_ok (S := S.map nE) (most := most) hr1 hn1
  have hSl : S.length ≤ 30 := by have := hsi1.len; omega
  (refine sw_seq ?_; refine sw_region ?_; (iterate 3 refine so_1 rfl ?_))
  refine so_call rfl rfl rfl (Give_S hsi1.ok hsi1.mK (by omega) hsi1.srt hsi1.prm (hvV (j := 0) rfl)) ?_
  rintro _ _ ⟨v1, D1, rfl, hD1, rfl⟩
  refine so_ent (G := stM g1 gr1 gm1 O R K1 [row t_int 1 (.slice (some ⟨ga, 0, none⟩) N N) N (ints V), rEs v1 D1, all (evF D1), Is W]) (ent_keep 7 [2, 3, 4, 5, 6, 0, 1] rfl rfl) ?_
  ((iterate 5 refine so_1 rfl ?_); refine so_nil ?_; refine sn_then ?_; refine sw_seq ?_; refine sw_region ?_; (iterate 4 refine so_1 rfl ?_))
  refine so_call rfl rfl rfl (Give_S hsi1.ok hsi1.mK (by omega) hsi1.srt hsi1.prm (hvV (j := 0) rfl)) ?_
  rintro _ _ ⟨v3, D2, rfl, hD2, rfl⟩
  rw [hT1] at hD1 ⊢
  rw [hT2] at hD2 ⊢
  have eN : ((q0 : Int) + 1).toNat - 1 = q0 := by omega
  rw [eN] at hD1 hD2
  have hq9 : q0 < R.length := by omega
  have hrow9 : R[q0]? = some (R.getD q0 []) := by rw [List.getD_eq_getElem?_getD, List.getElem?_eq_getElem hq9]; rfl
  clear hT1 hT2
  generalize R.getD q0 [] = row0 at *
  have hD1' : D1.map nE = (S.map nE).filter (fun e => !hasL (joinL V row0) e.r e.n) := hD1.trans (List.take_of_length_le (by
    have := List.length_filter_le (fun e : Ev => !hasL (joinL V row0) e.r e.n) (S.map nE)
    rw [List.length_map] at this
    show _ ≤ (100 : Int).toNat
    omega))
  have hD2' : D2.map nE = (D1.take most.toNat).map nE := by rw [hD2, List.map_take, hD1']; rfl
  have hl2 : D2.length = min most.toNat D1.length := by
    have := congrArg List.length hD2'
    rwa [List.length_map, List.length_map, List.length_take] at this
  have hD1g : ∀ e ∈ D1, EvG e := evG_sub hsi1.gL fun y hy => by rw [hD1'] at hy; exact (List.mem_filter.1 hy).1
  have hD2g : ∀ e ∈ D2, EvG e := evG_sub hD1g fun y hy => by
    rw [hD2'] at hy
    exact ((List.take_sublist _ _).map nE).mem hy
  refine so_fact (fun w H => (H.oat (k := 0) rfl).form) ?_
  rintro ⟨A3, c3, rfl, _, _, _⟩
  refine so_fact (fun w H => (H.oat (k := 7) rfl).form) ?_
  rintro ⟨A2, c2, rfl, hc22, _, q2⟩
  refine so_fact (p := ∀ e ∈ D1, EvK e) (fun w H e he => by
    have := er_form (evF_er (k := 8) rfl he w H)
    exact ⟨(hD1g e he).m.l32, this.1, this.2⟩) fun hD1k => ?_
  refine so_ent (G := stM g1 gr1 gm1 O R K1 [row t_int 1 (.slice (some ⟨ga, 0, none⟩) N N) N (ints V), rEs (.slice A2 D1.length c2) D1, all (evF D1), rEs (.slice A3 D2.length c3) D2, all (evF D2), Is W]) (ent_keep 9 [2, 3, 4, 5, 6, 7, 8, 0, 1] rfl rfl) ?_
  ((iterate 5 refine so_1 rfl ?_); refine so_nil ?_; refine sn_then ?_; (iterate 2 refine sw_seq ?_); refine sw_region ?_; (iterate 14 refine so_1 rfl ?_))
  refine so_know 100 (.bool false) rfl (congrArg Value.bool (decide_eq_false (by omega))) ?_
  ((iterate 10 refine so_1 rfl ?_))
  refine so_know 110 (.bool false) rfl (by simp; omega) ?_
  ((iterate 4 refine so_1 rfl ?_); refine so_2 rfl (by omega) ?_)
  refine so_callE rfl rfl rfl (SameEvents_S (m := D1.take most.toNat) hD2' (rEs_el (k := 7) (j := 8) rfl rfl) (fun w H => ⟨by
    have := ((H.ent (ent_row_take (j := D2.length) (by omega) 5 rfl rfl)).oat (k := 5) rfl).sl
    rw [evs_take hD1k] at this
    have e : D1.take D2.length = D1.take most.toNat := by rw [hl2, ← List.take_take, List.take_length]
    rw [e] at this
    have e2 : (D1.take most.toNat).length = D2.length := by rw [List.length_take, hl2]
    rw [e2]
    exact this, fun m hm => evF_er (k := 6) rfl (List.mem_of_mem_take hm) w H⟩) (fun e he => (hD2g e he).o)) ?_
  ((iterate 2 refine so_1 rfl ?_); refine so_nil ?_; refine sn_then ?_; refine sw_cond_f rfl ?_; refine sw_skip ?_; refine sn_then ?_; refine sw_seq ?_)
  have hLq : q0 < R.length := hq9
  refine sw_tree flL (OT.pre (List.range' 0 5) (.two 5 [6] 7 (OT.pre (List.range' 8 3) .nil))) [] (by decide +kernel) (ent_nil _) ?_
  refine st_ops 0 5 _ rfl rfl ?_
  (refine sd_1 rfl (.inl rfl) ?_)
  refine sd_call rfl rfl rfl rfl (Rows_S hs1.ok) ?_
  rintro rv _ ⟨Lr, hLr, rfl⟩
  refine ⟨ent_nil _, ?_⟩
  have hLrl : Lr.length = R.length := by have := congrArg List.length hLr; rwa [List.length_map] at this
  refine sd_fact (fun w H => (H.oat (k := 0) rfl).form) ?_
  rintro ⟨A4, c4, rfl, hc44, _, q4⟩
  obtain ⟨g4, o4, rfl⟩ := q4 (by omega)
  have e8 : ((q0 : Int) + 1 - 1).toNat = q0 := by omega
  have hc : (Lr.map Prod.fst)[q0]? = some Lr[q0].1 := by rw [List.getElem?_map, List.getElem?_eq_getElem (by omega)]; rfl
  have hmq := List.getElem_mem (l := Lr) (n := q0) (by omega)
  have hpr : Lr[q0].2 = row0 := by
    have h1 : (Lr.map Prod.snd)[q0]? = some Lr[q0].2 := by rw [List.getElem?_map, List.getElem?_eq_getElem (by omega)]; rfl
    rw [hLr, hrow9] at h1
    exact (Option.some.inj h1).symm
  generalize Lr[q0] = p at *
  (refine sd_1 rfl (.inl rfl) ?_; refine sd_2 rfl rfl (by (unfold I64; omega)) ?_; refine sd_2 rfl rfl (by omega) ?_)
  refine sd_nil (sn_tree (ent_nil _) ?_)
  refine st_twoJ (S' := Value × List Ev) (fun s => [(13, .bool true), (15, .slice (some ⟨ga, 0, none⟩) N N), (17, .slice A2 D1.length c2), (124, p.1), (126, s.1)])
    (fun s => rEs s.1 s.2 :: all (evF s.2) :: stM g1 gr1 gm1 O R K1 [rRs (.slice (some ⟨g4, o4, none⟩) Lr.length c4) Lr, all (vF Lr), row t_int 1 (.slice (some ⟨ga, 0, none⟩) N N) N (ints V), rEs (.slice A2 D1.length c2) D1, all (evF D1), Is W]) (fun s => s.2.map nE = S.map nE) (fun _ _ => ent_nil _) (fun J => ?_) (fun J => ?_) ?_
  · refine st_ops 5 3 _ rfl rfl ?_
    refine sd_ldE rfl rfl (fun w H => ex_load rfl rfl rfl (by rw [mulz_eq, e8, Nat.mul_one]; exact row_cell (k := 0) rfl hc w H)) rfl (ent_nil _) ?_
    (refine sd_1 rfl (.inl rfl) ?_)
    refine sd_call rfl rfl rfl rfl ((Kept_S (K := K1) hsi1.ok hsi1.mK (by omega) hsi1.srt hsi1.prm).ent (ent_keep 6 [2, 3, 4, 5, 0, 1] rfl rfl)) ?_
    rintro kv _ ⟨D, hD, rfl⟩
    refine ⟨ent_nil _, ?_⟩
    exact sd_nil (J (kv, D) _ _ hD ⟨rfl, rfl, rfl, rfl, rfl, trivial⟩ (ent_keep 13 [0, 1, 2, 3, 4, 5, 6, 7, 8, 9, 10] rfl rfl))
  · refine st_ops 6 2 _ rfl rfl ?_
    (refine sd_1 rfl (.inl rfl) ?_)
    refine sd_call rfl rfl rfl rfl ((Kept_S (K := K1) hsi1.ok hsi1.mK (by omega) hsi1.srt hsi1.prm).ent (ent_keep 6 [2, 3, 4, 5, 0, 1] rfl rfl)) ?_
    rintro kv _ ⟨D, hD, rfl⟩
    refine ⟨ent_nil _, ?_⟩
    refine sd_nil (sn_tree (ent_nil _) ?_)
    refine st_ops 5 1 _ rfl rfl ?_
    refine sd_ldE rfl rfl (fun w H => ex_load rfl rfl rfl (by rw [mulz_eq, e8, Nat.mul_one]; exact row_cell (k := 6) rfl hc w H)) rfl (ent_nil _) ?_
    exact sd_nil (J (kv, D) _ _ hD ⟨rfl, rfl, rfl, rfl, rfl, trivial⟩ (ent_keep 13 [0, 1, 2, 3, 4, 5, 6, 7, 8, 9, 10] rfl rfl))
  rintro ⟨kv, D⟩ hD
  dsimp only at hD ⊢
  refine st_ops 8 3 _ rfl rfl ?_
  ((iterate 3 refine sd_1 rfl (.inl rfl) ?_))
  refine sd_nil (sn_last ?_)
  (refine sn_then ?_; (iterate 2 refine sw_seq ?_); refine sw_region ?_; refine so_1 rfl ?_; refine so_nil ?_; refine sn_then ?_; refine sw_block ?_)
  have hDg : ∀ e ∈ D, EvG e := evG_map hsi1.gL hD
  refine sw_fact (fun w H => (H.oat (k := 0) rfl).form) ?_
  rintro ⟨A5, c5, rfl, hc55, _, q5⟩
  refine sw_fact (p := ∀ e ∈ D, EvK e) (fun w H e he => by
    have := er_form (evF_er (k := 1) rfl he w H)
    exact ⟨(hDg e he).m.l32, this.1, this.2⟩) fun hDk => ?_
  have hDD : D1.map nE = (D.filter (fun e => !hasL (joinL V row0) e.r e.n)).map nE := by
    rw [hD1', ← hD]; exact (flt_nE (fun e => !hasL (joinL V row0) e.r e.n) (fun e => rfl) D).symm
  have hDl1 : D1.length = (D.filter (fun e => !hasL (joinL V row0) e.r e.n)).length := by have := congrArg List.length hDD; rwa [List.length_map, List.length_map] at this
  have hsrt := hsi1.srt
  rw [← hD, List.pairwise_map] at hsrt
  refine sw_loop (S := Nat) (fun i => [(13, .bool true), (15, .slice (some ⟨ga, 0, none⟩) N N), (17, .slice A2 D1.length c2), (21, p.1), (22, .slice A5 D.length c5), (23, .int .i64 (((D.take i).filter (fun e => !hasL (joinL V row0) e.r e.n)).length : Int)), (24, .int .i64 (i : Int))])
    (fun _ => rEs (.slice A5 D.length c5) D :: all (evF D) :: stM g1 gr1 gm1 O R K1 [rRs (.slice (some ⟨g4, o4, none⟩) Lr.length c4) Lr, all (vF Lr), row t_int 1 (.slice (some ⟨ga, 0, none⟩) N N) N (ints V), rEs (.slice A2 D1.length c2) D1, all (evF D1), Is W]) (fun i => i ≤ D.length) (fun i => D.length - i) 0 ⟨rfl, rfl, rfl, rfl, rfl, rfl, rfl, trivial⟩ (Ent.refl _) (Nat.zero_le _) ?_
  intro i hi
  ((iterate 2 refine sw_seq ?_); refine sw_region ?_; (iterate 4 refine so_1 rfl ?_); refine so_nil ?_; refine sn_then ?_)
  refine sw_if rfl (fun h1 => ?_) (fun h1 => ?_)
  · have h1' : i < D.length := by omega
    obtain ⟨g5, o5, rfl⟩ := q5 (by omega)
    have hx := List.getElem?_eq_getElem h1'
    have hsn : D.take (i + 1) = D.take i ++ [D[i]] := List.take_succ_eq_append_getElem h1'
    have hmx := List.getElem_mem h1'
    have fx := evs_seg hDk hx
    have hlt : ∀ j (hj : j < i), evLt (D[j]'(by omega)) D[i] = true := fun j hj => List.pairwise_iff_getElem.1 hsrt j i (by omega) h1' hj
    generalize D[i] = y at *
    have f2 := evs_two fx
    have kx := hDk _ hmx
    have yl := evC_len kx.l32
    have hfl : ∀ q : Bool, hasL (joinL V row0) y.r y.n = q → ((D.take (i + 1)).filter (fun e => !hasL (joinL V row0) e.r e.n)).length = ((D.take i).filter (fun e => !hasL (joinL V row0) e.r e.n)).length + (if q = true then 0 else 1) := fun q hq => by
      rw [hsn, List.filter_append, List.length_append, List.filter_cons, List.filter_nil, hq]
      cases q <;> rfl
    have hat : hasL (joinL V row0) y.r y.n = false → ∃ z, D1[((D.take i).filter (fun e => !hasL (joinL V row0) e.r e.n)).length]? = some z ∧ nE z = nE y := fun hq => by
      have h2 := filter_at (p := fun e : Ev => !hasL (joinL V row0) e.r e.n) hx (by rw [hq]; rfl)
      have h3 : (D1.map nE)[((D.take i).filter (fun e => !hasL (joinL V row0) e.r e.n)).length]? = some (nE y) := by
        rw [hDD, List.getElem?_map, h2]; rfl
      rw [List.getElem?_map] at h3
      obtain ⟨z, hz, hz2⟩ := Option.map_eq_some_iff.1 h3
      exact ⟨z, hz, hz2⟩
    have hbd : ((D.take i).filter (fun e => !hasL (joinL V row0) e.r e.n)).length ≤ D.length := Nat.le_trans (List.length_filter_le _ _) (by rw [List.length_take]; omega)
    rw [hasL_join] at hfl hat
    generalize ((D.take i).filter (fun e => !hasL (joinL V row0) e.r e.n)).length = at' at *
    (refine sw_skip ?_; refine sn_then ?_; refine sw_seq ?_; refine sw_block ?_; (iterate 2 refine sw_seq ?_))
    refine sw_draw flo _ (by decide +kernel) (Ent.refl _) ?_
    ((iterate 3 refine sd_1 rfl (.inl rfl) ?_))
    by_cases hi0 : (0 : Int) < i
    · refine sd_know 135 (.bool true) rfl (congrArg Value.bool (decide_eq_true hi0)) ?_
      have hi1 : i - 1 < D.length := by omega
      have hx9 := List.getElem?_eq_getElem hi1
      have hless := hlt (i - 1) (by omega)
      have hm9 := List.getElem_mem hi1
      generalize D[i - 1] = x at *
      have fx9 := evs_seg hDk hx9
      have kx9 := hDk _ hm9
      have xl9 := evC_len kx9.l32
      have e9 : ((i : Int) - 1).toNat = i - 1 := by omega
      ((iterate 2 refine sd_1 rfl (.inl rfl) ?_); refine sd_2 rfl rfl (by (unfold I64; omega)) ?_; refine sd_2 rfl rfl (by omega) ?_)
      refine sd_ldrow 0 ((i - 1) * 39) rfl rfl rfl rfl rfl rfl rfl rfl (by rw [mulz_eq, e9]) (by omega) fx9 (by rw [xl9]; rfl) ?_
      ((iterate 2 refine sd_1 rfl (.inl rfl) ?_); refine sd_2 rfl rfl (by omega) ?_)
      refine sd_ldrow 0 (i * 39) rfl rfl rfl rfl rfl rfl rfl rfl (by rw [mulz_eq, Int.toNat_natCast]) (by omega) fx (by rw [yl]; rfl) ?_
      refine sd_callE rfl rfl rfl rfl ((eLess_S (evF_er (k := 1) rfl hm9) (evF_er (k := 1) rfl hmx))) (Ent.refl _) ?_
      rw [hless]
      ((iterate 2 refine sd_1 rfl (.inl rfl) ?_))
      refine sd_nil ?_
      (refine sn_then ?_; refine sw_cond_f rfl ?_; refine sw_skip ?_; refine sn_then ?_; (iterate 2 refine sw_seq ?_); refine sw_region ?_; (iterate 3 refine so_1 rfl ?_); refine so_2 rfl (by omega) ?_; refine so_1 rfl ?_)
      refine so_ldrow 0 (i * 39) rfl rfl rfl rfl rfl rfl rfl (by rw [mulz_eq, Int.toNat_natCast]; rfl) (by omega) f2 rfl ?_
      refine so_callE rfl rfl rfl (Has_S (hvV (j := 8) rfl)) ?_
      cases hA : hasL V y.r y.n with
      | true =>
        have hfl' := hfl true (by rw [hA]; rfl)
        rw [if_pos rfl, Nat.add_zero] at hfl'
        ((iterate 9 refine so_1 rfl ?_); refine so_nil ?_; refine sn_then ?_; refine sw_cond_t rfl ?_; refine sw_exit ?_; refine sn_then_exit ?_; refine sn_block_exit ?_; refine sn_then ?_; refine sw_region ?_; refine so_1 rfl ?_; refine so_2 rfl (by (unfold I64; omega)) ?_; refine so_1 rfl ?_; refine so_nil ?_)
        rw [show (i : Int) + 1 = ((i + 1 : Nat) : Int) by omega]
        exact sn_round (i + 1) ⟨rfl, rfl, rfl, rfl, rfl, by rw [hfl']; rfl, rfl, trivial⟩ (Ent.refl _) h1' (by omega)
      | false =>
      ((iterate 4 refine so_1 rfl ?_); refine so_2 rfl (by omega) ?_; refine so_1 rfl ?_)
      refine so_ldrow 0 (i * 39) rfl rfl rfl rfl rfl rfl rfl (by rw [mulz_eq, Int.toNat_natCast]; rfl) (by omega) f2 rfl ?_
      refine so_callE rfl rfl rfl (Has_S (vF_vl (k := 7) rfl hmq)) ?_
      rw [hpr]
      cases hB : hasL row0 y.r y.n with
      | true =>
        have hfl' := hfl true (by rw [hA, hB]; rfl)
        rw [if_pos rfl, Nat.add_zero] at hfl'
        (refine so_1 rfl ?_; refine so_nil ?_; refine sn_then ?_; refine sw_cond_t rfl ?_; refine sw_exit ?_; refine sn_then_exit ?_; refine sn_block_exit ?_; refine sn_then ?_; refine sw_region ?_; refine so_1 rfl ?_; refine so_2 rfl (by (unfold I64; omega)) ?_; refine so_1 rfl ?_; refine so_nil ?_)
        rw [show (i : Int) + 1 = ((i + 1 : Nat) : Int) by omega]
        exact sn_round (i + 1) ⟨rfl, rfl, rfl, rfl, rfl, by rw [hfl']; rfl, rfl, trivial⟩ (Ent.refl _) h1' (by omega)
      | false =>
      have hfl' := hfl false (by rw [hA, hB]; rfl)
      rw [if_neg (by simp)] at hfl'
      obtain ⟨z, hz, hzy⟩ := hat (by rw [hA, hB]; rfl)
      have haL : at' < D1.length := (List.getElem?_eq_some_iff.1 hz).1
      obtain ⟨g2, o2, rfl⟩ := q2 (by omega)
      have hzm := List.mem_of_getElem? hz
      have fz := evs_seg hD1k hz
      have kz := hD1k _ hzm
      have zl := evC_len kz.l32
      (refine so_1 rfl ?_; refine so_nil ?_; refine sn_then ?_; refine sw_cond_f rfl ?_; refine sw_skip ?_; refine sn_then ?_; (iterate 2 refine sw_seq ?_))
      refine sw_draw flo _ (by decide +kernel) (Ent.refl _) ?_
      ((iterate 5 refine sd_1 rfl (.inl rfl) ?_))
      refine sd_know 168 (.bool false) rfl (congrArg Value.bool (decide_eq_false (by omega))) ?_
      ((iterate 2 refine sd_1 rfl (.inl rfl) ?_); refine sd_2 rfl rfl (by omega) ?_)
      refine sd_ldrow 9 (at' * 39) rfl rfl rfl rfl rfl rfl rfl rfl (by rw [mulz_eq, Int.toNat_natCast]) (by omega) fz (by rw [zl]; rfl) ?_
      ((iterate 2 refine sd_1 rfl (.inl rfl) ?_); refine sd_2 rfl rfl (by omega) ?_)
      refine sd_ldrow 0 (i * 39) rfl rfl rfl rfl rfl rfl rfl rfl (by rw [mulz_eq, Int.toNat_natCast]) (by omega) fx (by rw [yl]; rfl) ?_
      refine sd_callE rfl rfl rfl rfl ((SameEvent_S hzy (evF_er (k := 10) rfl hzm) (evF_er (k := 1) rfl hmx) kz.l32 (hD1g _ hzm).r32 (hD1g _ hzm).m.rn)) (Ent.refl _) ?_
      ((iterate 2 refine sd_1 rfl (.inl rfl) ?_))
      refine sd_nil ?_
      (refine sn_then ?_; refine sw_cond_f rfl ?_; refine sw_skip ?_; refine sn_then ?_; refine sw_region ?_; refine so_1 rfl ?_; refine so_2 rfl (by (unfold I64; omega)) ?_; refine so_1 rfl ?_; refine so_nil ?_; refine sn_block ?_; refine sn_then ?_; refine sw_region ?_; refine so_1 rfl ?_; refine so_2 rfl (by (unfold I64; omega)) ?_; refine so_1 rfl ?_; refine so_nil ?_)
      rw [show (i : Int) + 1 = ((i + 1 : Nat) : Int) by omega]
      exact sn_round (i + 1) ⟨rfl, rfl, rfl, rfl, rfl, by rw [hfl']; rfl, rfl, trivial⟩ (Ent.refl _) h1' (by omega)
    · refine sd_know 135 (.bool false) rfl (congrArg Value.bool (decide_eq_false hi0)) ?_
      ((iterate 9 refine sd_1 rfl (.inl rfl) ?_); refine sd_1 rfl (.inr rfl) ?_; (iterate 2 refine sd_1 rfl (.inl rfl) ?_))
      refine sd_nil ?_
      (refine sn_then ?_; refine sw_cond_f rfl ?_; refine sw_skip ?_; refine sn_then ?_; (iterate 2 refine sw_seq ?_); refine sw_region ?_; (iterate 3 refine so_1 rfl ?_); refine so_2 rfl (by omega) ?_; refine so_1 rfl ?_)
      refine so_ldrow 0 (i * 39) rfl rfl rfl rfl rfl rfl rfl (by rw [mulz_eq, Int.toNat_natCast]; rfl) (by omega) f2 rfl ?_
      refine so_callE rfl rfl rfl (Has_S (hvV (j := 8) rfl)) ?_
      cases hA : hasL V y.r y.n with
      | true =>
        have hfl' := hfl true (by rw [hA]; rfl)
        rw [if_pos rfl, Nat.add_zero] at hfl'
        ((iterate 9 refine so_1 rfl ?_); refine so_nil ?_; refine sn_then ?_; refine sw_cond_t rfl ?_; refine sw_exit ?_; refine sn_then_exit ?_; refine sn_block_exit ?_; refine sn_then ?_; refine sw_region ?_; refine so_1 rfl ?_; refine so_2 rfl (by (unfold I64; omega)) ?_; refine so_1 rfl ?_; refine so_nil ?_)
        rw [show (i : Int) + 1 = ((i + 1 : Nat) : Int) by omega]
        exact sn_round (i + 1) ⟨rfl, rfl, rfl, rfl, rfl, by rw [hfl']; rfl, rfl, trivial⟩ (Ent.refl _) h1' (by omega)
      | false =>
      ((iterate 4 refine so_1 rfl ?_); refine so_2 rfl (by omega) ?_; refine so_1 rfl ?_)
      refine so_ldrow 0 (i * 39) rfl rfl rfl rfl rfl rfl rfl (by rw [mulz_eq, Int.toNat_natCast]; rfl) (by omega) f2 rfl ?_
      refine so_callE rfl rfl rfl (Has_S (vF_vl (k := 7) rfl hmq)) ?_
      rw [hpr]
      cases hB : hasL row0 y.r y.n with
      | true =>
        have hfl' := hfl true (by rw [hA, hB]; rfl)
        rw [if_pos rfl, Nat.add_zero] at hfl'
        (refine so_1 rfl ?_; refine so_nil ?_; refine sn_then ?_; refine sw_cond_t rfl ?_; refine sw_exit ?_; refine sn_then_exit ?_; refine sn_block_exit ?_; refine sn_then ?_; refine sw_region ?_; refine so_1 rfl ?_; refine so_2 rfl (by (unfold I64; omega)) ?_; refine so_1 rfl ?_; refine so_nil ?_)
        rw [show (i : Int) + 1 = ((i + 1 : Nat) : Int) by omega]
        exact sn_round (i + 1) ⟨rfl, rfl, rfl, rfl, rfl, by rw [hfl']; rfl, rfl, trivial⟩ (Ent.refl _) h1' (by omega)
      | false =>
      have hfl' := hfl false (by rw [hA, hB]; rfl)
      rw [if_neg (by simp)] at hfl'
      obtain ⟨z, hz, hzy⟩ := hat (by rw [hA, hB]; rfl)
      have haL : at' < D1.length := (List.getElem?_eq_some_iff.1 hz).1
      obtain ⟨g2, o2, rfl⟩ := q2 (by omega)
      have hzm := List.mem_of_getElem? hz
      have fz := evs_seg hD1k hz
      have kz := hD1k _ hzm
      have zl := evC_len kz.l32
      (refine so_1 rfl ?_; refine so_nil ?_; refine sn_then ?_; refine sw_cond_f rfl ?_; refine sw_skip ?_; refine sn_then ?_; (iterate 2 refine sw_seq ?_))
      refine sw_draw flo _ (by decide +kernel) (Ent.refl _) ?_
      ((iterate 5 refine sd_1 rfl (.inl rfl) ?_))
      refine sd_know 168 (.bool false) rfl (congrArg Value.bool (decide_eq_false (by omega))) ?_
      ((iterate 2 refine sd_1 rfl (.inl rfl) ?_); refine sd_2 rfl rfl (by omega) ?_)
      refine sd_ldrow 9 (at' * 39) rfl rfl rfl rfl rfl rfl rfl rfl (by rw [mulz_eq, Int.toNat_natCast]) (by omega) fz (by rw [zl]; rfl) ?_
      ((iterate 2 refine sd_1 rfl (.inl rfl) ?_); refine sd_2 rfl rfl (by omega) ?_)
      refine sd_ldrow 0 (i * 39) rfl rfl rfl rfl rfl rfl rfl rfl (by rw [mulz_eq, Int.toNat_natCast]) (by omega) fx (by rw [yl]; rfl) ?_
      refine sd_callE rfl rfl rfl rfl ((SameEvent_S hzy (evF_er (k := 10) rfl hzm) (evF_er (k := 1) rfl hmx) kz.l32 (hD1g _ hzm).r32 (hD1g _ hzm).m.rn)) (Ent.refl _) ?_
      ((iterate 2 refine sd_1 rfl (.inl rfl) ?_))
      refine sd_nil ?_
      (refine sn_then ?_; refine sw_cond_f rfl ?_; refine sw_skip ?_; refine sn_then ?_; refine sw_region ?_; refine so_1 rfl ?_; refine so_2 rfl (by (unfold I64; omega)) ?_; refine so_1 rfl ?_; refine so_nil ?_; refine sn_block ?_; refine sn_then ?_; refine sw_region ?_; refine so_1 rfl ?_; refine so_2 rfl (by (unfold I64; omega)) ?_; refine so_1 rfl ?_; refine so_nil ?_)
      rw [show (i : Int) + 1 = ((i + 1 : Nat) : Int) by omega]
      exact sn_round (i + 1) ⟨rfl, rfl, rfl, rfl, rfl, by rw [hfl']; rfl, rfl, trivial⟩ (Ent.refl _) h1' (by omega)
  · obtain rfl : i = D.length := by omega
    rw [List.take_length, ← hDl1]
    (refine sw_exit ?_; refine sn_then_exit ?_; refine sn_loop_exit ?_; refine sn_block_exit ?_; refine sn_then ?_; refine sw_seq ?_; refine sw_region ?_; (iterate 8 refine so_1 rfl ?_); refine so_nil ?_; refine sn_then ?_; refine sw_ret ?_)
    refine sn_ret rfl (.tmp rfl .nil) (ent_keep 11 [] rfl rfl) ?_
    exact ⟨congrArg Value.bool (decide_eq_true rfl), rfl⟩
end
end Go.Proofs.Ytajbpdmhpcpkgaa
