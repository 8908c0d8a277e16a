/- Letters: the program's Note and Ship. Conditions: not too much. -/
import Derived.Test.YtmeiadgpglpelaaGreatK9
import Derived.Test.YtmeiadgpglpelaaGreatK8
import Derived.Test.YtmeiadgpglpelaaGreatK5
import Derived.Test.YtmeiadgpglpelaaGreatK3
import Derived.Test.YtmeiadgpglpelaaGreatK0
namespace Go.Proofs.YtmeiadgpglpelaaGreat
open Go Go.Eng Go.RowKit

/-- A Note; a Ship. -/
def noteL (e : Ev) (to' : Int) (seen : List Int) : Lt := ⟨1, e.r, to', nS, seen, nS, [e], 0, 0, List.replicate 32 0, nS, []⟩
def shipL (x : Lt) (bs : List Int) (seen : List Int) : Lt := ⟨5, x.to', x.from', nS, seen, nS, [], x.r, x.n, x.id, nS, bs⟩
/-- A letter that is made, ahead of its options. -/
def ltM (k f t : Int) (sv : Value) (seen : List Int) : Lt := ⟨k, f, t, sv, seen, nS, [], 0, 0, List.replicate 32 0, nS, []⟩
abbrev optV (f : Nat) (caps : List Value) : Value := .func (.func f) ⟨[]⟩ ⟨caps⟩
section
variable {b : World} {F : List SP}
theorem of_S {e : Ev} : SC Tryz.prog n_letter_of [evV e] b F (fun u F' => ∃ g, u = optV n_letter_of_1 [.pointer (some ⟨g, 0, none⟩)] ∧ F' = pt g t_api_Event (evC e) :: F) := by
  refine enterS F_letter_of rfl rfl rfl ?_
  (refine sw_seq (sw_region ?_))
  refine so_box rfl rfl rfl rfl rfl fun g => ?_
  (refine so_1 rfl ?_; refine so_nil (sn_then ?_); refine sw_seq (sw_region ?_); (iterate 2 refine so_1 rfl ?_); refine so_nil (sn_then ?_); refine sw_ret ?_)
  refine sn_ret rfl (.tmp rfl .nil) (Ent.refl _) ?_
  exact ⟨g, rfl, rfl⟩
theorem about_S {r n : Int} {id : List Int} : SC Tryz.prog n_letter_about [dotV r n, idV id] b F (fun u F' => ∃ g h, u = optV n_letter_about_1 [.pointer (some ⟨g, 0, none⟩), .pointer (some ⟨h, 0, none⟩)] ∧ F' = pt h t_api_ID (u8s id) :: pt g t_api_Dot [.int .i64 r, .int .i64 n] :: F) := by
  refine enterS F_letter_about rfl rfl rfl ?_
  (refine sw_seq (sw_region ?_))
  refine so_box rfl rfl rfl rfl rfl fun g => ?_
  refine so_box rfl rfl rfl rfl rfl fun h => ?_
  (refine so_1 rfl ?_; refine so_nil (sn_then ?_); refine sw_seq (sw_region ?_); (iterate 2 refine so_1 rfl ?_); refine so_nil (sn_then ?_); refine sw_ret ?_)
  refine sn_ret rfl (.tmp rfl .nil) (Ent.refl _) ?_
  exact ⟨g, h, rfl, rfl⟩
theorem with_S {A : Option Addr} {n c : Nat} : SC Tryz.prog n_letter_with [.slice A n c] b F (fun u F' => ∃ g, u = optV n_letter_with_1 [.pointer (some ⟨g, 0, none⟩)] ∧ F' = pt g t_sl_uint8 [.slice A n c] :: F) := by
  refine enterS F_letter_with rfl rfl rfl ?_
  (refine sw_seq (sw_region ?_))
  refine so_box rfl rfl rfl rfl rfl fun g => ?_
  (refine so_1 rfl ?_; refine so_nil (sn_then ?_); refine sw_seq (sw_region ?_); (iterate 2 refine so_1 rfl ?_); refine so_nil (sn_then ?_); refine sw_ret ?_)
  refine sn_ret rfl (.tmp rfl .nil) (Ent.refl _) ?_
  exact ⟨g, rfl, rfl⟩
set_option maxRecDepth 20000 in
set_option maxHeartbeats 2000000 in
theorem of1_S {gl ge : Nat} {x : Lt} {e : Ev} (h32 : e.id.length = 32) (he : ∀ w, Sat b F w → ER w e) (hd : e.deps.length ≤ 1000000) (hl : e.refs.length ≤ 1000000) :
    SC Tryz.prog n_letter_of_1 [.pointer (some ⟨gl, 0, none⟩), .pointer (some ⟨ge, 0, none⟩)] b (pt gl t_api_Letter (ltC x) :: pt ge t_api_Event (evC e) :: F)
      (fun _ F' => ∃ dv rv gs, F' = pt gl t_api_Letter (ltC { x with ev := .slice (some ⟨gs, 0, none⟩) 1 1, evs := [e.own dv rv] }) :: pt ge t_api_Event (evC (e.own dv rv)) :: rEs (.slice (some ⟨gs, 0, none⟩) 1 1) [e.own dv rv] :: all (evF [e.own dv rv]) :: F) := by
  have her : ∀ w, Sat b (pt gl t_api_Letter (ltC x) :: pt ge t_api_Event (evC e) :: F) w → ER w e := up he (ent_keep 2 [] rfl rfl)
  refine enterS F_letter_of_1 rfl rfl rfl ?_
  (refine sw_seq ?_)
  refine sw_draw2 flo 7 (pt ge t_api_Event (evC e) :: F) [] rfl (by decide +kernel) (ent_keep 2 [1] rfl rfl) ?_
  (refine sd_1 rfl (.inl rfl) ?_; refine sd_l 0 rfl rfl rfl rfl ?_)
  refine sd_call rfl rfl rfl rfl (Clone_ints (fun w H => (her w H).dv) hd) ?_
  rintro dv _ rfl
  refine ⟨ent_keep 3 [2] rfl rfl, ?_⟩
  (refine sd_1 rfl (.inl rfl) ?_)
  refine sd_ld 0 rfl rfl rfl rfl rfl rfl (evC_rv h32) rfl rfl ?_
  refine sd_call rfl rfl rfl rfl (Clone_ids (fun w H => (her w (H.ent (ent_keep 1 [] rfl rfl))).rv) hl) ?_
  rintro rv _ rfl
  refine ⟨ent_keep 4 [3] rfl rfl, ?_⟩
  (refine sd_1 rfl (.inl rfl) ?_)
  refine sd_nil (sn_draw2 rfl (ent_nil _) ?_)
  refine sd_fact (fun w H => (H.oat (k := 1) rfl).form) ?_
  rintro ⟨A1, c1, rfl, _, _, _⟩
  refine sd_fact (fun w H => (H.oat (k := 0) rfl).form) ?_
  rintro ⟨A2, c2, rfl, _, _, _⟩
  refine sd_st 3 rfl rfl rfl rfl rfl rfl rfl rfl rfl (show stO (evC e) 2 _ = some (evC { e with dv := .slice A1 e.deps.length c1 }) from rfl) rfl (ent_nil _) ?_
  (refine sd_1 rfl (.inl rfl) ?_)
  refine sd_st 3 rfl rfl rfl rfl rfl rfl rfl rfl rfl (evC_strv (e := { e with dv := .slice A1 e.deps.length c1 }) h32) rfl (ent_nil _) ?_
  have hyl := evC_len (e := e.own (.slice A1 e.deps.length c1) (.slice A2 e.refs.length c2)) h32
  have hy1 := evC_one (e := e.own (.slice A1 e.deps.length c1) (.slice A2 e.refs.length c2)) rfl rfl
  have hyP : evF [e.own (.slice A1 e.deps.length c1) (.slice A2 e.refs.length c2)] = [rZ (.slice A1 e.deps.length c1) e.deps, rD (.slice A2 e.refs.length c2) e.refs] := rfl
  refine sd_fact (p := ∃ y, y = e.own (.slice A1 e.deps.length c1) (.slice A2 e.refs.length c2)) (fun _ _ => ⟨_, rfl⟩) ?_
  rintro ⟨y, hy⟩
  have hev : ({ { e with dv := .slice A1 e.deps.length c1 } with rv := .slice A2 e.refs.length c2 } : Ev) = y := hy.symm
  rw [← hy] at hyl hy1 hyP
  rw [hev]
  refine sd_nil ?_
  (refine sn_then ?_; refine sw_region ?_; refine so_1 rfl ?_)
  refine so_ldA 3 rfl rfl rfl rfl rfl rfl (segO_all (by rw [hyl]; rfl)) rfl ?_
  refine so_lit1 rfl rfl rfl rfl rfl rfl rfl hyl (by decide) fun gs => ?_
  ((iterate 2 refine so_1 rfl ?_); refine so_s1 3 rfl rfl rfl rfl ?_; refine so_nil ?_)
  refine sn_end rfl .nil (G := pt gl t_api_Letter (ltC { x with ev := .slice (some ⟨gs, 0, none⟩) 1 1, evs := [y] }) :: pt ge t_api_Event (evC y) :: rEs (.slice (some ⟨gs, 0, none⟩) 1 1) [y] :: all (evF [y]) :: F) ?_ ?_
  · have e1 : evsC [y] = evC y := by rw [evsC, flC, flC, List.append_nil]
    rw [hyP, rEs, e1]
    refine (ent_blk_row (t := t_api_Event) (sz := 39) (n := 1) (v := .slice (some ⟨gs, 0, none⟩) 1 1) rfl (by rw [hyl]) (by decide) 0 rfl rfl).trans ?_
    exact (ent_keep 5 [2, 1, 3, 4, 0] rfl rfl).trans ((ent_close (G := [rZ (.slice A1 e.deps.length c1) e.deps, rD (.slice A2 e.refs.length c2) e.refs])).trans (ent_keep 4 [1, 2, 3, 0] rfl rfl))
  · exact ⟨.slice A1 e.deps.length c1, .slice A2 e.refs.length c2, gs, by rw [← hy]⟩
set_option maxRecDepth 20000 in
theorem about1_S {gl gd gi jd ji : Nat} {x : Lt} {r n : Int} {id : List Int} (h32 : x.id.length = 32) (hid : id.length = 32) (hd : nth F jd = some (pt gd t_api_Dot [.int .i64 r, .int .i64 n])) (hi : nth F ji = some (pt gi t_api_ID (u8s id))) :
    SC Tryz.prog n_letter_about_1 [.pointer (some ⟨gl, 0, none⟩), .pointer (some ⟨gd, 0, none⟩), .pointer (some ⟨gi, 0, none⟩)] b (pt gl t_api_Letter (ltC x) :: F) (fun _ F' => F' = pt gl t_api_Letter (ltC { x with r := r, n := n, id := id }) :: F) := by
  refine enterS F_letter_about_1 rfl rfl rfl ?_
  skip
  refine sw_draw flo F (by decide +kernel) (ent_keep 1 [] rfl rfl) ?_
  ((iterate 2 refine sd_1 rfl (.inl rfl) ?_))
  refine sd_ldA jd rfl rfl rfl rfl rfl hd (segO_all (cs := [.int .i64 r, .int .i64 n]) rfl) rfl rfl ?_
  refine sd_ldA ji rfl rfl rfl rfl rfl hi (segO_all (cs := u8s id) (by rw [u8s_len, hid]; rfl)) rfl rfl ?_
  ((iterate 2 refine sd_1 rfl (.inl rfl) ?_))
  refine sd_stA (vs := [.int .i64 r, .int .i64 n]) (cs' := ltC { x with r := r, n := n }) 0 rfl rfl rfl rfl rfl rfl rfl rfl rfl rfl ltC_stdot rfl (ent_keep 1 [] rfl rfl) ?_
  ((iterate 2 refine sd_1 rfl (.inl rfl) ?_))
  refine sd_stA (vs := u8s id) (cs' := ltC { x with r := r, n := n, id := id }) 0 rfl rfl rfl rfl rfl rfl rfl (by rw [u8s_len, hid]; rfl) (List.all_eq_true.2 (u8s_one _)) rfl (ltC_stid (x := { x with r := r, n := n }) h32 hid) rfl (ent_keep 1 [] rfl rfl) ?_
  refine sd_nil ?_
  skip
  refine sn_end rfl .nil (Ent.refl _) ?_
  rfl
theorem with1_S {gl gb jb : Nat} {x : Lt} {vb : Value} {xs : List Int} (h32 : x.id.length = 32) (hb : nth F jb = some (pt gb t_sl_uint8 [vb])) (hv : ∀ w, Sat b F w → VL (Value.int .u8) w vb xs) (hl : xs.length ≤ 1000000) :
    SC Tryz.prog n_letter_with_1 [.pointer (some ⟨gl, 0, none⟩), .pointer (some ⟨gb, 0, none⟩)] b (pt gl t_api_Letter (ltC x) :: F) (fun _ F' => ∃ A c, F' = pt gl t_api_Letter (ltC { x with bv := .slice A xs.length c }) :: rB (.slice A xs.length c) xs :: F) := by
  refine enterS F_letter_with_1 rfl rfl rfl ?_
  (refine sw_region ?_; refine so_1 rfl ?_)
  refine so_ld (jb + 1) rfl rfl rfl rfl rfl hb rfl rfl ?_
  refine so_call rfl rfl rfl (CloneB_S (up hv (ent_keep 1 [] rfl rfl)) hl) ?_
  rintro bv _ rfl
  refine so_fact (fun w H => (H.oat (k := 0) rfl).form) ?_
  rintro ⟨A, c, rfl, _, _, _⟩
  ((iterate 2 refine so_1 rfl ?_))
  refine so_st 1 rfl rfl rfl rfl rfl rfl rfl rfl (ltC_stbv h32) rfl ?_
  (refine so_nil ?_)
  refine sn_end rfl .nil (ent_keep 2 [1, 0] rfl rfl) ?_
  exact ⟨_, _, rfl⟩
set_option maxRecDepth 20000 in
set_option maxHeartbeats 2000000 in
/-- A letter is made of options: J: how it stands, and what memory it has, behind the first ones. -/
theorem made_S {k f t : Int} {vs : Value} {seen : List Int} {gl q : Nat} {opts : List Value} {G0 : List SP} (J : Nat → Lt → List SP → Prop) (hs : ∀ w, Sat b (G0 ++ F) w → VL (Value.int .i64) w vs seen) (hl : seen.length ≤ 1000000) (hq : nth F q = some (pt gl t_letter_option opts)) (ho : opts.length ≤ 1000)
    (h0 : ∀ A c, J 0 (ltM k f t (.slice A seen.length c) seen) (rZ (.slice A seen.length c) seen :: G0))
    (hstep : ∀ i g x G A, i < opts.length → J i x G → ∃ fn caps, opts[i]? = some (optV fn caps) ∧ Bodied Tryz.prog fn ∧ SC Tryz.prog fn (.pointer (some ⟨g, 0, none⟩) :: caps) b (pt g t_api_Letter (ltC x) :: (G ++ (A :: F))) (fun _ F' => ∃ x' G', J (i + 1) x' G' ∧ F' = pt g t_api_Letter (ltC x') :: (G' ++ (A :: F))))
    (hend : ∀ x G, J opts.length x G → x.id.length = 32 ∧ x.sv.oneCell' = true ∧ x.ev.oneCell' = true ∧ x.bv.oneCell' = true) :
    SC Tryz.prog n_letter_made [.int .i64 k, .int .i64 f, .int .i64 t, vs, .slice (some ⟨gl, 0, none⟩) opts.length opts.length] b (G0 ++ F) (fun u F' => ∃ x G, J opts.length x G ∧ u = ltV x ∧ F' = G ++ F) := by
  refine enterS F_letter_made rfl rfl rfl ?_
  (refine sw_seq (sw_region ?_))
  refine so_new rfl rfl rfl rfl rfl fun g10 => ?_
  (refine so_nil (sn_then ?_); refine sw_seq (sw_region ?_); (iterate 4 refine so_1 rfl ?_))
  refine so_call rfl rfl rfl (Clone_ints (up hs (ent_keep 1 [] rfl rfl)) hl) ?_
  rintro sv _ rfl
  refine so_fact (fun w H => (H.oat (k := 0) rfl).form) ?_
  rintro ⟨A, c, rfl, _, _, _⟩
  (refine so_1 rfl ?_)
  refine so_new rfl rfl rfl rfl rfl fun g11 => ?_
  refine so_know 19 (ltV (ltM k f t (.slice A seen.length c) seen)) rfl rfl ?_
  have m32 : (ltM k f t (.slice A seen.length c) seen).id.length = 32 := rfl
  have ml := ltC_len m32
  have m1 := ltC_one (x := ltM k f t (.slice A seen.length c) seen) rfl rfl rfl
  refine so_stW 0 rfl rfl rfl rfl rfl rfl rfl ml m1 (by rw [ml]; rfl) ?_
  (refine so_nil (sn_then ?_); (iterate 2 refine sw_seq ?_); refine sw_region ?_; (iterate 3 refine so_1 rfl ?_); refine so_nil (sn_then ?_); refine sw_block ?_)
  refine sw_loop (S := Nat × Lt × List SP) (fun s => [(10, .pointer (some ⟨g10, 0, none⟩)), (11, .pointer (some ⟨g11, 0, none⟩)), (20, .slice (some ⟨gl, 0, none⟩) opts.length opts.length), (21, .int .i64 (opts.length : Int)), (22, .int .i64 (s.1 : Int))])
    (fun s => pt g11 t_api_Letter (ltC s.2.1) :: (s.2.2 ++ (pt g10 t_api_Letter (ltC ltZ) :: F))) (fun s => s.1 ≤ opts.length ∧ J s.1 s.2.1 s.2.2) (fun s => opts.length - s.1) (0, ltM k f t (.slice A seen.length c) seen, rZ (.slice A seen.length c) seen :: G0) ⟨rfl, rfl, rfl, rfl, rfl, trivial⟩ ?_ ⟨Nat.zero_le _, h0 _ _⟩ ?_
  · refine ent_perm (.cons _ ?_)
    show List.Perm (rZ (.slice A seen.length c) seen :: pt g10 t_api_Letter _ :: (G0 ++ F)) (rZ (.slice A seen.length c) seen :: (G0 ++ (pt g10 t_api_Letter (ltC ltZ) :: F)))
    exact .cons _ List.perm_middle.symm
  rintro ⟨i, x, G⟩ ⟨hi, hJ⟩
  dsimp only at hi hJ ⊢
  (refine sw_seq (sw_region ?_); refine so_1 rfl ?_; refine so_nil (sn_then ?_); refine sw_seq ?_)
  refine sw_if rfl (fun h5 => ?_) (fun h5 => ?_)
  · have h5' : i < opts.length := by omega
    obtain ⟨fn, caps, hv, hb, hsc⟩ := hstep i g11 x G (pt g10 t_api_Letter (ltC ltZ)) h5' hJ
    have hqn : ∀ {X : SP}, nth (X :: (G ++ (pt g10 t_api_Letter (ltC ltZ) :: F))) (G.length + 2 + q) = some (pt gl t_letter_option opts) := fun {X} => by
      show nth (X :: (G ++ (pt g10 t_api_Letter (ltC ltZ) :: F))) (G.length + 2 + q) = _
      rw [show G.length + 2 + q = (G.length + (q + 1)) + 1 by omega]
      show nth (G ++ (pt g10 t_api_Letter (ltC ltZ) :: F)) (G.length + (q + 1)) = _
      rw [nth_append, if_neg (by omega), show G.length + (q + 1) - G.length = q + 1 by omega]
      exact hq
    (refine sw_skip ?_; refine sn_then ?_; refine sw_seq ?_; refine sw_block ?_; refine sw_seq (sw_region ?_); refine so_2 rfl (by omega) ?_)
    refine so_rd rfl (fun w H => ex_load rfl rfl rfl (by rw [mulz_eq, Int.toNat_natCast, Nat.mul_one]; rw [(H.blk hqn).cell]; simpa using hv)) rfl ?_
    (refine so_1 rfl ?_; refine so_nil (sn_then ?_); refine sw_region ?_; refine so_1 rfl ?_)
    refine so_call rfl rfl rfl hsc ?_
    rintro _ _ ⟨x', G', hJ', rfl⟩
    (refine so_nil ?_; refine sn_block ?_; refine sn_then ?_; refine sw_region ?_; refine so_2 rfl (by (unfold I64; omega)) ?_; refine so_1 rfl ?_; refine so_nil ?_)
    rw [show (i : Int) + 1 = ((i + 1 : Nat) : Int) by omega]
    exact sn_round (i + 1, x', G') ⟨rfl, rfl, rfl, rfl, rfl, trivial⟩ (Ent.refl _) ⟨h5', hJ'⟩ (by dsimp only; omega)
  obtain rfl : i = opts.length := by omega
  obtain ⟨e1, e2, e3, e4⟩ := hend x G hJ
  have xl := ltC_len e1
  have x1 := ltC_one e2 e3 e4
  refine sw_ent (G := pt g11 t_api_Letter (ltC x) :: pt g10 t_api_Letter (ltC ltZ) :: (G ++ F)) (ent_perm (.cons _ List.perm_middle)) ?_
  (refine sw_exit ?_; refine sn_then_exit ?_; refine sn_loop_exit ?_; refine sn_block_exit ?_; refine sn_then ?_; refine sw_seq (sw_region ?_))
  refine so_ldA 0 rfl rfl rfl rfl rfl rfl (segO_all (by rw [xl]; rfl)) rfl ?_
  refine so_stW 1 rfl rfl rfl rfl rfl rfl rfl xl x1 (by rw [xl]; rfl) ?_
  (refine so_nil (sn_then ?_); refine sw_ret ?_)
  refine sn_ret rfl (.whole 1 rfl rfl rfl rfl (by rw [xl]; rfl) .nil) (ent_keep 2 [] rfl rfl) ?_
  exact ⟨x, G, hJ, rfl, rfl⟩
end
end Go.Proofs.YtmeiadgpglpelaaGreat
/- Letters: the program's Note and Ship, on. Conditions: not too much. -/
namespace Go.Proofs.YtmeiadgpglpelaaGreat
open Go Go.Eng Go.RowKit

/-- How a Note stands behind its options. -/
def JN (ge : Nat) (e : Ev) (to' : Int) (seen : List Int) : Nat → Lt → List SP → Prop
  | 0, x, G => ∃ A c, x = ltM 1 e.r to' (.slice A seen.length c) seen ∧ G = [rZ (.slice A seen.length c) seen, pt ge t_api_Event (evC e)]
  | _ + 1, x, G => ∃ A c dv rv gs, x = { ltM 1 e.r to' (.slice A seen.length c) seen with ev := .slice (some ⟨gs, 0, none⟩) 1 1, evs := [e.own dv rv] } ∧
      G = [pt ge t_api_Event (evC (e.own dv rv)), rEs (.slice (some ⟨gs, 0, none⟩) 1 1) [e.own dv rv], all (evF [e.own dv rv]), rZ (.slice A seen.length c) seen]
/-- How a Ship stands behind its options. -/
def JS (gd gi gb : Nat) (a : Lt) (vb : Value) (bs seen : List Int) : Nat → Lt → List SP → Prop
  | 0, x, G => ∃ A c, x = ltM 5 a.to' a.from' (.slice A seen.length c) seen ∧ G = [rZ (.slice A seen.length c) seen]
  | 1, x, G => ∃ A c, x = { ltM 5 a.to' a.from' (.slice A seen.length c) seen with r := a.r, n := a.n, id := a.id } ∧ G = [rZ (.slice A seen.length c) seen]
  | _ + 2, x, G => ∃ A c A2 c2, x = { ltM 5 a.to' a.from' (.slice A seen.length c) seen with r := a.r, n := a.n, id := a.id, bv := .slice A2 bs.length c2, bs := bs } ∧ G = [rB (.slice A2 bs.length c2) bs, rZ (.slice A seen.length c) seen]
section
variable {b : World} {F : List SP}
set_option maxRecDepth 20000 in
set_option maxHeartbeats 400000 in
theorem Note_S {e : Ev} {to' : Int} {vs : Value} {seen : List Int} (h32 : e.id.length = 32) (he : ∀ w, Sat b F w → ER w e) (hd : e.deps.length ≤ 1000000) (hr : e.refs.length ≤ 1000000) (hs : ∀ w, Sat b F w → VL (Value.int .i64) w vs seen) (hl : seen.length ≤ 1000000) :
    SC Tryz.prog n_letter_Note [evV e, .int .i64 to', vs] b F (fun u F' => ∃ y : Lt, nL y = nL (noteL e to' seen) ∧ u = ltV y ∧ F' = ltP y ++ F) := by
  refine enterS F_letter_Note rfl rfl rfl ?_
  have xl := evC_len h32
  (refine sw_seq (sw_region ?_))
  refine so_box rfl rfl rfl rfl rfl fun g3 => ?_
  refine so_new rfl rfl rfl rfl rfl fun g6 => ?_
  (refine so_nil (sn_then ?_); refine sw_seq ?_)
  refine sw_draw flo (pt g3 t_api_Event (evC e) :: F) (by decide +kernel) (ent_keep 2 [1] rfl rfl) ?_
  ((iterate 2 refine sd_1 rfl (.inl rfl) ?_); refine sd_l 0 rfl rfl rfl rfl ?_; (iterate 2 refine sd_1 rfl (.inl rfl) ?_))
  refine sd_ldA 0 rfl rfl rfl rfl rfl rfl (segO_all (by rw [xl]; rfl)) rfl rfl ?_
  refine sd_call rfl rfl rfl rfl of_S ?_
  rintro _ _ ⟨ge, rfl, rfl⟩
  refine ⟨ent_keep 3 [2] rfl rfl, ?_⟩
  refine sd_lit [optV n_letter_of_1 [.pointer (some ⟨ge, 0, none⟩)]] rfl rfl rfl rfl rfl rfl rfl rfl rfl rfl (ent_keep 3 [2] rfl rfl) fun gl => ?_
  refine sd_ent (ent_keep 2 [1, 0] rfl rfl) ?_
  have hm := made_S (b := b) (k := 1) (f := e.r) (t := to') (vs := vs) (seen := seen) (gl := gl) (opts := [optV n_letter_of_1 [.pointer (some ⟨ge, 0, none⟩)]]) (F := pt gl t_letter_option [optV n_letter_of_1 [.pointer (some ⟨ge, 0, none⟩)]] :: pt g6 t_api_Letter (ltC ltZ) :: pt g3 t_api_Event (evC e) :: F) (G0 := [pt ge t_api_Event (evC e)]) (q := 0) (JN ge e to' seen) (up hs (ent_keep 4 [] rfl rfl)) hl rfl (Nat.le_of_ble_eq_true rfl) (fun A c => ⟨A, c, rfl, rfl⟩) ?_ ?_
  rotate_left
  · rintro i g x G A hi hJ
    obtain rfl : i = 0 := by simp at hi; omega
    obtain ⟨A1, c1, rfl, rfl⟩ := hJ
    refine ⟨n_letter_of_1, [.pointer (some ⟨ge, 0, none⟩)], rfl, inferInstance, ?_⟩
    refine ((of1_S (F := rZ (.slice A1 seen.length c1) seen :: A :: pt gl t_letter_option [optV n_letter_of_1 [.pointer (some ⟨ge, 0, none⟩)]] :: pt g6 t_api_Letter (ltC ltZ) :: pt g3 t_api_Event (evC e) :: F) h32 (up he (ent_keep 5 [] rfl rfl)) hd hr).ent (ent_keep 3 [0, 2, 1] rfl rfl)).mono ?_
    rintro _ _ ⟨dv, rv, gs, rfl⟩
    exact ⟨_, _, ⟨A1, c1, dv, rv, gs, rfl, rfl⟩, rfl⟩
  · rintro x G ⟨A1, c1, dv, rv, gs, rfl, rfl⟩
    exact ⟨rfl, rfl, rfl, rfl⟩
  refine sd_call rfl rfl rfl rfl hm ?_
  rintro _ _ ⟨x, G, ⟨A1, c1, dv, rv, gs, hx, rfl⟩, rfl, rfl⟩
  refine ⟨ent_keep 7 [6] rfl rfl, ?_⟩
  have y32 : x.id.length = 32 := by rw [hx]; rfl
  have yl := ltC_len y32
  have y1 := ltC_one (x := x) (by rw [hx]; rfl) (by rw [hx]; rfl) (by rw [hx]; rfl)
  refine sd_stW (vs := ltC x) 5 rfl rfl rfl rfl rfl rfl rfl rfl yl y1 (by rw [yl]; rfl) (ent_keep 7 [6] rfl rfl) ?_
  refine sd_nil ?_
  (refine sn_then ?_; refine sw_ret ?_)
  refine sn_ret rfl (.whole 5 rfl rfl rfl rfl (by rw [yl]; rfl) .nil) ((ent_keep 7 [3, 1, 2] rfl rfl).trans ((ent_row_nil t_uint8 1 rfl).trans (ent_keep 4 [1, 2, 3, 0] rfl rfl))) ?_
  refine ⟨x, ?_, rfl, ?_⟩
  · rw [hx]; rfl
  · rw [hx]; rfl
set_option maxRecDepth 20000 in
set_option maxHeartbeats 400000 in
theorem Ship_S {a : Lt} {vb vs : Value} {bs seen : List Int} (h32 : a.id.length = 32) (hb : ∀ w, Sat b F w → VL (Value.int .u8) w vb bs) (hbl : bs.length ≤ 1000000) (hs : ∀ w, Sat b F w → VL (Value.int .i64) w vs seen) (hl : seen.length ≤ 1000000) :
    SC Tryz.prog n_letter_Ship [ltV a, vb, vs] b F (fun u F' => ∃ y : Lt, nL y = nL (shipL a bs seen) ∧ u = ltV y ∧ F' = ltP y ++ F) := by
  refine enterS F_letter_Ship rfl rfl rfl ?_
  refine sw_fact (fun w H => (hb w H).form) ?_
  rintro ⟨Ab, cb, rfl, _, _, _, _⟩
  (refine sw_seq (sw_region ?_))
  refine so_box rfl rfl rfl rfl rfl fun g3 => ?_
  refine so_new rfl rfl rfl rfl rfl fun g6 => ?_
  (refine so_nil (sn_then ?_); refine sw_seq ?_)
  refine sw_draw flo (pt g3 t_api_Letter (ltC a) :: F) (by decide +kernel) (ent_keep 2 [1] rfl rfl) ?_
  (refine sd_1 rfl (.inl rfl) ?_; refine sd_l 0 rfl rfl rfl rfl ?_; refine sd_1 rfl (.inl rfl) ?_; refine sd_l 0 rfl rfl rfl rfl ?_; (iterate 2 refine sd_1 rfl (.inl rfl) ?_))
  refine sd_ldA 0 rfl rfl rfl rfl rfl rfl ltC_dot rfl rfl ?_
  (refine sd_1 rfl (.inl rfl) ?_)
  refine sd_ldA 0 rfl rfl rfl rfl rfl rfl (ltC_id h32) rfl rfl ?_
  refine sd_call rfl rfl rfl rfl about_S ?_
  rintro _ _ ⟨gd, gi, rfl, rfl⟩
  refine ⟨ent_keep 4 [3] rfl rfl, ?_⟩
  (refine sd_1 rfl (.inl rfl) ?_)
  refine sd_call rfl rfl rfl rfl with_S ?_
  rintro _ _ ⟨gb, rfl, rfl⟩
  refine ⟨ent_keep 5 [4] rfl rfl, ?_⟩
  refine sd_lit [optV n_letter_about_1 [.pointer (some ⟨gd, 0, none⟩), .pointer (some ⟨gi, 0, none⟩)], optV n_letter_with_1 [.pointer (some ⟨gb, 0, none⟩)]] rfl rfl rfl rfl rfl rfl rfl rfl rfl rfl (ent_keep 5 [4] rfl rfl) fun gl => ?_
  refine sd_call rfl rfl rfl rfl (made_S (G0 := []) (opts := [optV n_letter_about_1 [.pointer (some ⟨gd, 0, none⟩), .pointer (some ⟨gi, 0, none⟩)], optV n_letter_with_1 [.pointer (some ⟨gb, 0, none⟩)]]) (q := 0) (JS gd gi gb a (.slice Ab bs.length cb) bs seen) (up hs (ent_keep 6 [] rfl rfl)) hl rfl (Nat.le_of_ble_eq_true rfl) (fun A c => ⟨A, c, rfl, rfl⟩) ?_ ?_) ?_
  · rintro i g x G A hi hJ
    match i, hi, hJ with
    | 0, _, ⟨A1, c1, hx, hG⟩ =>
      subst hx; subst hG
      refine ⟨n_letter_about_1, _, rfl, inferInstance, ?_⟩
      refine SC.mono (about1_S (jd := 5) (ji := 4) rfl h32 rfl rfl) ?_
      rintro _ _ rfl
      exact ⟨_, _, ⟨A1, c1, rfl, rfl⟩, rfl⟩
    | 1, _, ⟨A1, c1, hx, hG⟩ =>
      subst hx; subst hG
      refine ⟨n_letter_with_1, _, rfl, inferInstance, ?_⟩
      refine SC.mono (with1_S (jb := 3) h32 rfl (up hb (ent_keep 8 [] rfl rfl)) hbl) ?_
      rintro _ _ ⟨A2, c2, rfl⟩
      exact ⟨_, _, ⟨A1, c1, A2, c2, rfl, rfl⟩, rfl⟩
    | i + 2, hi, _ => simp at hi; omega
  · rintro x G ⟨A1, c1, A2, c2, rfl, rfl⟩
    exact ⟨h32, rfl, rfl, rfl⟩
  rintro _ _ ⟨x, G, ⟨A1, c1, A2, c2, hx, rfl⟩, rfl, rfl⟩
  refine ⟨ent_keep 8 [7] rfl rfl, ?_⟩
  have y32 : x.id.length = 32 := by rw [hx]; exact h32
  have yl := ltC_len y32
  have y1 := ltC_one (x := x) (by rw [hx]; rfl) (by rw [hx]; rfl) (by rw [hx]; rfl)
  refine sd_stW (vs := ltC x) 6 rfl rfl rfl rfl rfl rfl rfl rfl yl y1 (by rw [yl]; rfl) (ent_keep 8 [7] rfl rfl) ?_
  refine sd_nil ?_
  (refine sn_then ?_; refine sw_ret ?_)
  refine sn_ret rfl (.whole 6 rfl rfl rfl rfl (by rw [yl]; rfl) .nil) ((ent_keep 8 [1, 0] rfl rfl).trans (((ent_close (G := [])).trans (ent_row_nil t_api_Event 39 rfl)).trans (ent_keep 4 [2, 0, 1, 3] rfl rfl))) ?_
  refine ⟨x, ?_, rfl, ?_⟩
  · rw [hx]; rfl
  · rw [hx]; rfl
end
end Go.Proofs.YtmeiadgpglpelaaGreat
/- Letters: the laws' own letters. Conditions: none. -/
namespace Go.Proofs.YtmeiadgpglpelaaGreat
open Go Go.Eng Go.RowKit

/-! ## What is told plain is told of all that say the same -/
theorem giveT_nE (n w : Int) (p : Option Ev) (l : List Ev) : giveT n w (p.map nE) (l.map nE) = giveT n w p l := by
  induction l generalizing p with
  | nil => cases p <;> rfl
  | cons e l ih =>
    have h1 : chkE (nE e) n w = chkE e n w := rfl
    have h2 : lateB (p.map nE) (nE e) = lateB p e := by cases p <;> rfl
    rw [List.map_cons, giveT_cons, giveT_cons, h1, h2, ← ih (some e)]
    rfl
theorem firstC_nE (n w : Int) (l : List Ev) : firstC n w (l.map nE) = firstC n w l := by cases l <;> rfl
theorem firstE_nE (l : List Ev) : firstE (l.map nE) = firstE l := by
  induction l with
  | nil => rfl
  | cons e l ih =>
    have h1 : encE (nE e) = encE e := rfl
    rw [List.map_cons, firstE, firstE, ih, h1]
section
variable {x y : Lt}
theorem chkT_nL (h : nL y = nL x) (n w : Int) : chkT y n w = chkT x n w := by
  obtain ⟨k, f, t, sv2, sn, ev2, evs2, r, n2, id, bv2, bs⟩ := y
  simp only [nL, Lt.mk.injEq] at h
  obtain ⟨rfl, rfl, rfl, _, rfl, _, hevs, rfl, rfl, rfl, _, rfl⟩ := h
  have hl : evs2.length = x.evs.length := by have := congrArg List.length hevs; rwa [List.length_map, List.length_map] at this
  have h1 : firstC n w evs2 = firstC n w x.evs := by rw [← firstC_nE, hevs, firstC_nE]
  have h2 : giveT n w none evs2 = giveT n w none x.evs := by rw [← giveT_nE n w none evs2, hevs, giveT_nE]
  unfold chkT kindT
  dsimp only
  rw [hl, h1, h2]
  rfl
theorem encT_nL (h : nL y = nL x) : encT y = encT x := by
  obtain ⟨k, f, t, sv2, sn, ev2, evs2, r, n2, id, bv2, bs⟩ := y
  simp only [nL, Lt.mk.injEq] at h
  obtain ⟨rfl, rfl, rfl, _, rfl, _, hevs, rfl, rfl, rfl, _, rfl⟩ := h
  have hl : evs2.length = x.evs.length := by have := congrArg List.length hevs; rwa [List.length_map, List.length_map] at this
  have h1 : firstE evs2 = firstE x.evs := by rw [← firstE_nE, hevs, firstE_nE]
  have h2 : (evs2.map fun e => pBytes (encE e).1) = x.evs.map fun e => pBytes (encE e).1 := by
    have e1 : ∀ l : List Ev, (l.map fun e => pBytes (encE e).1) = (l.map nE).map fun e => pBytes (encE e).1 := fun l => by rw [List.map_map]; rfl
    rw [e1 evs2, hevs, ← e1]
  unfold encT encTL encTH
  dsimp only
  rw [hl, h1, h2]
theorem ev_nE {P : Ev → Prop} (hP : ∀ e f : Ev, nE e = nE f → P f → P e) {l m : List Ev} (h : l.map nE = m.map nE) (hm : ∀ e ∈ m, P e) : ∀ e ∈ l, P e := fun e he => by
  have : nE e ∈ m.map nE := by rw [← h]; exact List.mem_map_of_mem he
  obtain ⟨f, hf, hfe⟩ := List.mem_map.1 this
  exact hP e f hfe.symm (hm f hf)
theorem ew_nE (e f : Ev) (h : nE e = nE f) (hf : EW f) : EW e := by
  obtain ⟨dv, rv, rfl⟩ := nE_eq h.symm
  exact hf.own dv rv
theorem evl_nE (e f : Ev) (h : nE e = nE f) (hf : EvL f) : EvL e := by
  obtain ⟨dv, rv, rfl⟩ := nE_eq h.symm
  exact ⟨hf.dn, hf.rn, hf.ps, hf.ts⟩
theorem same_nE (e f : Ev) (h : nE e = nE f) (hf : f.id.length = 32 ∧ len32 f.refs ∧ f.refs.length ≤ 1000000) : e.id.length = 32 ∧ len32 e.refs ∧ e.refs.length ≤ 1000000 := by
  obtain ⟨dv, rv, rfl⟩ := nE_eq h.symm
  exact hf
theorem flat_ok {l : List (List Int)} (h : ∀ x ∈ l, byteOk x) : byteOk l.flatten := by
  induction l with
  | nil => exact .nil
  | cons x l ih => rw [List.flatten_cons]; exact (h x List.mem_cons_self).app (ih fun y hy => h y (List.mem_cons_of_mem _ hy))
theorem idOk_b {x : List Int} (hx : idOk x) : byteOk x := fun y hy => by
  have := hx.2 y hy
  simp [Lit.wf, IntKind.min, IntKind.max, IntKind.signed, IntKind.bits] at this
  omega
theorem encT_bytes {x : Lt} (h : LW x) : byteOk (encT x).1 := by
  by_cases he : (encT x).2 = 0
  · rw [(encT_ok he).2.2.1]
    unfold ltB
    exact (numB_ok _).app ((numB_ok _).app ((numB_ok _).app (((numB_ok _).app (flat_ok (fun y hy => by obtain ⟨z, _, rfl⟩ := List.mem_map.1 hy; exact numB_ok z))).app ((numB_ok _).app ((flat_ok (fun y hy => by obtain ⟨z, hz, rfl⟩ := List.mem_map.1 hy; exact (numB_ok _).app (enc_bytes (h.evs z hz)))).app (((numB_ok _).app (numB_ok _)).app ((idOk_b h.id).app ((numB_ok _).app h.bs))))))))
  · rw [encT_bad he]; exact .nil
theorem nL_evs (h : nL y = nL x) : y.evs.map nE = x.evs.map nE := (congrArg Lt.evs h : (nL y).evs = (nL x).evs)
theorem nL_seen (h : nL y = nL x) : y.seen = x.seen := (congrArg Lt.seen h : (nL y).seen = (nL x).seen)
theorem nL_bs (h : nL y = nL x) : y.bs = x.bs := (congrArg Lt.bs h : (nL y).bs = (nL x).bs)
theorem lw_nL (h : nL y = nL x) (hw : LW x) : LW y := by
  have he := ev_nE ew_nE (nL_evs h) hw.evs
  obtain ⟨k, f, t, sv2, sn, ev2, evs2, r, n2, id, bv2, bs⟩ := y
  simp only [nL, Lt.mk.injEq] at h
  obtain ⟨rfl, rfl, rfl, _, rfl, _, hevs, rfl, rfl, rfl, _, rfl⟩ := h
  exact ⟨hw.kind, hw.from', hw.to', hw.seen, he, hw.dot, hw.id, hw.bs⟩
/-- A letter that is not too long for the program's functions. -/
structure LtL (x : Lt) : Prop where
  seen : x.seen.length ≤ 1000000
  bs : x.bs.length ≤ 1000000
  ev : ∀ e ∈ x.evs, EvL e
theorem ltl_nL (h : nL y = nL x) (hl : LtL x) : LtL y := ⟨by rw [nL_seen h]; exact hl.seen, by rw [nL_bs h]; exact hl.bs, ev_nE evl_nE (nL_evs h) hl.ev⟩
end

/-! ## An own letter as one piece -/
abbrev lP (y : Lt) : SP := all (ltP y)
theorem lP_lr {b : World} {F : List SP} {k : Nat} {y : Lt} (hk : nth F k = some (lP y)) : ∀ w, Sat b F w → LR w y := fun w hS => by
  obtain ⟨h1, hl, hA⟩ := hS.mem.get hk
  have h2 : Sat b (ltP y) w := ⟨hS.os, hS.tape, hS.output, SatH.mono hA hl⟩
  exact lt_rows (j1 := 0) (j2 := 1) (j3 := 2) (j4 := 3) rfl rfl rfl rfl w h2
theorem LR.of {w : World} {x y : Lt} (h : LR w y) (h1 : x.sv = y.sv) (h2 : x.seen = y.seen) (h3 : x.ev = y.ev) (h4 : x.evs = y.evs) (h5 : x.bv = y.bv) (h6 : x.bs = y.bs) : LR w x :=
  ⟨by rw [h1, h2]; exact h.sv, by rw [h3, h4]; exact h.ev, by rw [h5, h6]; exact h.bv⟩

/-! ## The chapter's digest -/
structure IdX (id : List Int) : Prop where
  ok : idOk id
  h32 : hasM id 32 = true
  h1 : hasM id 1 = false
  own : cutR (sumM [120]) 32 = id
  other : cutR (sumM [121]) 32 ≠ id
def sha120 : List Int := sumM [120]
theorem sha120_x : IdX sha120 := by
  have h : (sumM [120]).length = 32 ∧ (sumM [120]).all (fun x => (Lit.int .u8 x).wf) = true ∧ hasM (sumM [120]) 32 = true ∧ hasM (sumM [120]) 1 = false ∧ cutR (sumM [120]) 32 = sumM [120] ∧ cutR (sumM [121]) 32 ≠ sumM [120] := by decide +kernel
  exact ⟨⟨h.1, fun x hx => List.all_eq_true.1 h.2.1 x hx⟩, h.2.2.1, h.2.2.2.1, h.2.2.2.2.1, h.2.2.2.2.2⟩
/-- The chapter's event; its Need. -/
def oneX (id : List Int) : Ev := ⟨1, 1, nS, [0, 0], 1, ⟨#[114]⟩, ⟨#[]⟩, id, nS, [id]⟩
def needX (id : List Int) : Lt := ⟨4, 2, 1, nS, [0, 0], nS, [], 1, 1, id, nS, []⟩
theorem chkE_oneX {id : List Int} (h : hasM id 32 = true) : chkE (oneX id) 2 32 = 0 := by
  have e1 : placedB (oneX id) 2 = true := rfl
  have e2 : repoF (strI (oneX id).repo) = (0, 0) := repo_r
  have e3 : tagE (oneX id) = 0 := rfl
  have e4 : idE (oneX id) 32 = 0 := by
    show (if (1 : Int) = 4 then _ else if hasM id 32 = true then (0 : Int) else 8) = 0
    rw [h]; rfl
  have e5 : refsE (oneX id) true 32 = 0 := by
    unfold refsE
    rw [if_neg (by simp), if_neg (by simp [oneX, riseB]), if_pos (by simp [oneX, h])]
  unfold chkE
  rw [if_neg (by decide), if_neg (by rw [e1]; simp), if_neg (by simp [oneX]), if_neg (by rw [e2]; simp), if_neg (by rw [e3]; simp), if_neg (by rw [e4]; simp)]
  exact e5
theorem oneX_ew {id : List Int} (h : idOk id) : EW (oneX id) :=
  small_ew h (by show (0 : Int) ≤ 1 ∧ (1 : Int) ≤ 100; decide) (by show (0 : Int) ≤ 1 ∧ (1 : Int) ≤ 100; decide) (by show (0 : Int) ≤ 1 ∧ (1 : Int) ≤ 100; decide) (by show ∀ x ∈ [(0 : Int), 0], 0 ≤ x ∧ x ≤ 100; decide) (fun x hx => by rw [List.mem_singleton.1 hx]; exact h) (by show (1 : Nat) ≤ 100; decide) (by show (0 : Nat) ≤ 100; decide)
theorem oneX_l (id : List Int) : EvL (oneX id) := ⟨by simp [oneX], by simp [oneX], by show (1 : Nat) ≤ _; decide, by show (0 : Nat) ≤ _; decide⟩
theorem small_lw {x : Lt} (h : idOk x.id) (hk : 0 ≤ x.kind ∧ x.kind ≤ 100) (hf : 0 ≤ x.from' ∧ x.from' ≤ 100) (ht : 0 ≤ x.to' ∧ x.to' ≤ 100) (hs : ∀ y ∈ x.seen, 0 ≤ y ∧ y ≤ 100) (hr : 0 ≤ x.r ∧ x.r ≤ 100) (hn : 0 ≤ x.n ∧ x.n ≤ 100) (he : ∀ e ∈ x.evs, EW e) (hb : byteOk x.bs) : LW x :=
  ⟨⟨by omega, by omega⟩, ⟨by omega, by omega⟩, ⟨by omega, by omega⟩, fun y hy => ⟨by have := hs y hy; omega, by have := hs y hy; omega⟩, he, ⟨(i64wf _).2 ⟨by dsimp only; omega, by dsimp only; omega⟩, (i64wf _).2 ⟨by dsimp only; omega, by dsimp only; omega⟩⟩, h, hb⟩
section
variable {b : World} {F : List SP}
set_option maxRecDepth 20000 in
theorem oneX_S : SC Tryz.prog n_entrepotlaw25_one [] b F (fun v F' => ∃ dv rv, v = evV ((oneX sha120).own dv rv) ∧ F' = rZ dv [0, 0] :: rD rv [sha120] :: F) := by
  have h32 := sha120_x.ok.1
  have hOf : ∀ {F' : List SP} {vb : Value}, (∀ w, Sat b F' w → VL (Value.int .u8) w vb [120]) → SC Tryz.prog n_sha_Sum [vb] b F' (fun v G => v = idV sha120 ∧ G = F') := fun h => Sum_S (by decide) h
  generalize sha120 = id at h32 hOf ⊢
  refine enterS F_entrepotlaw25_one rfl rfl rfl ?_
  (refine sw_seq (sw_region ?_))
  refine so_new rfl rfl rfl rfl rfl fun g0 => ?_
  (refine so_nil (sn_then ?_); refine sw_seq (sw_region ?_))
  refine so_lit ([120].map (Value.int .u8)) rfl rfl rfl rfl rfl rfl rfl rfl rfl fun gl => ?_
  refine so_mark 0 rfl rfl rfl rfl rfl rfl rfl rfl ?_
  refine so_callE rfl rfl rfl (hOf (fun w H => H.ptz_vl (k := 0) rfl rfl (Nat.le_refl _) (by omega) (fun j hj => rfl))) ?_
  skip
  refine so_new rfl rfl rfl rfl rfl fun g1 => ?_
  refine so_stW 0 rfl rfl rfl rfl rfl rfl rfl (by rw [u8s_len, h32]; rfl) (u8s_one _) (by simp [h32]) ?_
  (refine so_nil (sn_then ?_); refine sw_seq (sw_region ?_); refine so_1 rfl ?_)
  refine so_lit (ints [0, 0]) rfl rfl rfl rfl rfl rfl rfl rfl rfl fun gd => ?_
  refine so_ldA 1 rfl rfl rfl rfl rfl rfl (segID h32) rfl ?_
  refine so_ldA 1 rfl rfl rfl rfl rfl rfl (segID h32) rfl ?_
  refine so_lit1 rfl rfl rfl rfl rfl rfl rfl (by rw [u8s_len, h32]; rfl) (by decide) fun gr => ?_
  refine so_B rfl rfl rfl ⟨rfl, rfl, rfl, rfl, (by show (u8s _).length = _; rw [u8s_len, h32]; rfl), rfl, trivial⟩ ?_
  have yl : (evC ((oneX id).own (.slice (some ⟨gd, 0, none⟩) 2 2) (.slice (some ⟨gr, 0, none⟩) 1 1))).length = 39 := evC_len h32
  have y1 := evC_one (e := (oneX id).own (.slice (some ⟨gd, 0, none⟩) 2 2) (.slice (some ⟨gr, 0, none⟩) 1 1)) rfl rfl
  refine so_know 10 (evV ((oneX id).own (.slice (some ⟨gd, 0, none⟩) 2 2) (.slice (some ⟨gr, 0, none⟩) 1 1))) rfl rfl ?_
  generalize hx : (oneX id).own (.slice (some ⟨gd, 0, none⟩) 2 2) (.slice (some ⟨gr, 0, none⟩) 1 1) = x at yl y1 ⊢
  refine so_stW 4 rfl rfl rfl rfl rfl rfl rfl yl y1 (by rw [yl]; rfl) ?_
  (refine so_nil (sn_then ?_); refine sw_ret ?_)
  refine sn_ret rfl (.whole 4 rfl rfl rfl rfl (by rw [yl]; rfl) .nil) ((ent_blk_row (t := t_api_ID) (sz := 32) (n := 1) (v := .slice (some ⟨gr, 0, none⟩) 1 1) rfl (by rw [u8s_len, h32]) (by decide) 0 rfl rfl).trans ((ent_rDi (l := [id]) 0 rfl rfl (by simp [idsC]) rfl).trans ((ent_blk_row (t := t_int) (sz := 1) (n := 2) (v := .slice (some ⟨gd, 0, none⟩) 2 2) rfl rfl (by decide) 1 rfl rfl).trans (ent_keep 5 [1, 0] rfl rfl)))) ?_
  exact ⟨.slice (some ⟨gd, 0, none⟩) 2 2, .slice (some ⟨gr, 0, none⟩) 1 1, by rw [hx]; rfl, rfl⟩
set_option maxRecDepth 20000 in
theorem needX_S : SC Tryz.prog n_entrepotlaw25_need [] b F (fun v F' => ∃ y : Lt, nL y = nL (needX sha120) ∧ v = ltV y ∧ F' = lP y :: F) := by
  have h32 := sha120_x.ok.1
  have hOf : ∀ {F' : List SP} {vb : Value}, (∀ w, Sat b F' w → VL (Value.int .u8) w vb [120]) → SC Tryz.prog n_sha_Sum [vb] b F' (fun v G => v = idV sha120 ∧ G = F') := fun h => Sum_S (by decide) h
  generalize sha120 = id at h32 hOf ⊢
  refine enterS F_entrepotlaw25_need rfl rfl rfl ?_
  (refine sw_seq (sw_region ?_))
  refine so_new rfl rfl rfl rfl rfl fun g0 => ?_
  (refine so_nil (sn_then ?_); refine sw_seq (sw_region ?_))
  refine so_lit (ints [0, 0]) rfl rfl rfl rfl rfl rfl rfl rfl rfl fun gd => ?_
  (refine so_1 rfl ?_)
  refine so_lit ([120].map (Value.int .u8)) rfl rfl rfl rfl rfl rfl rfl rfl rfl fun gl => ?_
  refine so_mark 0 rfl rfl rfl rfl rfl rfl rfl rfl ?_
  refine so_callE rfl rfl rfl (hOf (fun w H => H.ptz_vl (k := 0) rfl rfl (Nat.le_refl _) (by omega) (fun j hj => rfl))) ?_
  skip
  refine so_B rfl rfl rfl ⟨rfl, rfl, rfl, rfl, rfl, (by show (u8s _).length = _; rw [u8s_len, h32]; rfl), trivial⟩ ?_
  have hx : ∃ x : Lt, x = { needX id with sv := .slice (some ⟨gd, 0, none⟩) 2 2 } := ⟨_, rfl⟩
  obtain ⟨x, hx⟩ := hx
  have yl : (ltC x).length = 40 := ltC_len (by rw [hx]; exact h32)
  have y1 := ltC_one (x := x) (by rw [hx]; rfl) (by rw [hx]; rfl) (by rw [hx]; rfl)
  refine so_know 6 (ltV x) rfl (by rw [hx]; rfl) ?_
  refine so_stW 2 rfl rfl rfl rfl rfl rfl rfl yl y1 (by rw [yl]; rfl) ?_
  (refine so_nil (sn_then ?_); refine sw_ret ?_)
  refine sn_ret rfl (.whole 2 rfl rfl rfl rfl (by rw [yl]; rfl) .nil) ((ent_blk_row (t := t_int) (sz := 1) (n := 2) (v := .slice (some ⟨gd, 0, none⟩) 2 2) rfl rfl (by decide) 1 rfl rfl).trans ((ent_keep 3 [1] rfl rfl).trans ((ent_row_nil t_uint8 1 rfl).trans (((ent_close (G := [])).trans (ent_row_nil t_api_Event 39 rfl)).trans ((ent_keep 4 [3, 0, 1, 2] rfl rfl).trans (ent_close (G := [rZ (.slice (some ⟨gd, 0, none⟩) 2 2) [0, 0], rEs nS [], all [], rB nS []]))))))) ?_
  exact ⟨x, by rw [hx]; rfl, rfl, by rw [hx]; rfl⟩
theorem checks_S {x : Lt} {want : Int} (hx : ∀ w, Sat b F w → LR w x) (hw : LW x) (hl : LtL x) : SC Tryz.prog n_entrepotlaw25_checks [ltV x, .int .i64 want] b F (fun v F' => v = .bool (decide (chkT x 2 32 = want)) ∧ F' = F) := by
  have xl := ltC_len hw.id.1
  refine enterS F_entrepotlaw25_checks rfl rfl rfl ?_
  (refine sw_seq (sw_region ?_))
  refine so_box rfl rfl rfl rfl rfl fun g2 => ?_
  (refine so_1 rfl ?_; refine so_nil (sn_then ?_); refine sw_seq (sw_region ?_))
  refine so_ldA 0 rfl rfl rfl rfl rfl rfl (segO_all (by rw [xl]; rfl)) rfl ?_
  refine so_callE rfl rfl rfl (CheckT_S (up hx (ent_keep 1 [] rfl rfl)) hw hl.ev hl.seen hl.bs) ?_
  ((iterate 3 refine so_1 rfl ?_); refine so_nil (sn_then ?_); refine sw_ret ?_)
  refine sn_ret rfl (.tmp rfl .nil) (ent_keep 1 [] rfl rfl) ?_
  exact ⟨rfl, rfl⟩
end
end Go.Proofs.YtmeiadgpglpelaaGreat
/- Letters: the chapter's examples (awake, LetterKnown). Conditions: none. -/
namespace Go.Proofs.YtmeiadgpglpelaaGreat
open Go Go.Eng Go.RowKit

theorem chkT_ship {x : Lt} {n w : Int} (h1 : ¬ (n < 1 ∨ 16 < n ∨ w < 1 ∨ 32 < w)) (hk : x.kind = 5) (hh : headT x n = true) (he : x.evs.length = 0) : chkT x n w = if dotT x n w ≠ 0 then dotT x n w else if 4096 < x.bs.length then 4 else if cutR (sumM x.bs) w = x.id then 0 else 8 := by
  unfold chkT kindT
  rw [if_neg h1, if_neg (by rw [hh]; simp), if_neg (by omega), if_neg (by omega), if_neg (by omega), if_neg (by omega), if_neg (by omega), if_neg (by omega)]
theorem dotT_need {x : Lt} {id : List Int} (hr : x.r = 1) (hn : x.n = 1) (hi : x.id = id) (h : hasM id 32 = true) : dotT x 2 32 = 0 := by
  unfold dotT
  rw [hr, hn, hi, if_neg (by decide), if_pos h]
section
variable {id : List Int}
theorem chk_note (h : IdX id) : chkT (noteL (oneX id) 2 [1, 0]) 2 32 = 0 := by
  have : chkT (noteL (oneX id) 2 [1, 0]) 2 32 = chkE (oneX id) 2 32 := rfl
  rw [this]; exact chkE_oneX h.h32
theorem chk_need (h : IdX id) : chkT (needX id) 2 32 = 0 := by
  have : chkT (needX id) 2 32 = if hasM id 32 = true then 0 else 8 := rfl
  rw [this, if_pos h.h32]
theorem chk_need1 (h : IdX id) : chkT (needX id) 2 1 = 8 := by
  have : chkT (needX id) 2 1 = if hasM id 1 = true then 0 else 8 := rfl
  rw [this, if_neg (by rw [h.h1]; simp)]
theorem chk_shipX (h : IdX id) : chkT (shipL (needX id) [120] [1, 0]) 2 32 = 0 := by
  rw [chkT_ship (by decide) rfl rfl rfl, dotT_need (id := id) rfl rfl rfl h.h32, if_neg (by simp), if_neg (by show ¬ 4096 < [120].length; simp)]
  show (if cutR (sumM [120]) 32 = id then (0 : Int) else 8) = 0
  rw [if_pos h.own]
theorem chk_shipY (h : IdX id) : chkT (shipL (needX id) [121] [1, 0]) 2 32 = 8 := by
  rw [chkT_ship (by decide) rfl rfl rfl, dotT_need (id := id) rfl rfl rfl h.h32, if_neg (by simp), if_neg (by show ¬ 4096 < [121].length; simp)]
  show (if cutR (sumM [121]) 32 = id then (0 : Int) else 8) = 8
  rw [if_neg h.other]
theorem chk_shipZ : chkT { shipL (needX id) [120] [1, 0] with r := 0, n := 0 } 2 32 = 2 := by
  have hd : dotT { shipL (needX id) [120] [1, 0] with r := 0, n := 0 } 2 32 = 2 := by unfold dotT; rw [if_pos (.inl (by show (0 : Int) < 1; decide))]
  rw [chkT_ship (by decide) rfl rfl rfl, hd, if_pos (by decide)]
def giveX : Lt := ⟨3, 1, 2, nS, [1, 0], nS, [], 0, 0, List.replicate 32 0, nS, []⟩
def askX : Lt := ⟨2, 1, 1, nS, [0, 0], nS, [], 0, 0, List.replicate 32 0, nS, []⟩
theorem chk_twice (h : IdX id) : chkT { giveX with evs := [oneX id, oneX id] } 2 32 = 25 := by
  have e1 : chkT { giveX with evs := [oneX id, oneX id] } 2 32 = giveT 2 32 none [oneX id, oneX id] := rfl
  have e2 := chkE_oneX h.h32
  have e3 : lateB (some (oneX id)) (oneX id) = true := rfl
  rw [e1, giveT_cons, if_neg (by rw [e2]; simp), if_neg (by simp [lateB]), giveT_cons, if_neg (by rw [e2]; simp), if_pos e3]
theorem idOk_zero : idOk (List.replicate 32 0) := ⟨rfl, fun x hx => by rw [(List.mem_replicate.1 hx).2]; decide⟩
theorem note_lw {e : Ev} {t : Int} {seen : List Int} (he : EW e) (hr : 0 ≤ e.r ∧ e.r ≤ 100) (ht : 0 ≤ t ∧ t ≤ 100) (hs : ∀ y ∈ seen, 0 ≤ y ∧ y ≤ 100) : LW (noteL e t seen) :=
  small_lw idOk_zero ⟨by show (0 : Int) ≤ 1; decide, by show (1 : Int) ≤ 100; decide⟩ hr ht hs ⟨by show (0 : Int) ≤ 0; decide, by show (0 : Int) ≤ 100; decide⟩ ⟨by show (0 : Int) ≤ 0; decide, by show (0 : Int) ≤ 100; decide⟩ (fun f hf => by rw [List.mem_singleton.1 hf]; exact he) (fun y hy => by cases hy)
theorem s10 : ∀ y ∈ [(1 : Int), 0], 0 ≤ y ∧ y ≤ 100 := by decide
theorem oneNote_lw (h : IdX id) : LW (noteL (oneX id) 2 [1, 0]) := note_lw (oneX_ew h.ok) (by show (0 : Int) ≤ 1 ∧ (1 : Int) ≤ 100; decide) (by decide) s10
theorem oneNote_l (id seen : List Int) (h : seen.length ≤ 1000000) : LtL (noteL (oneX id) 2 seen) := ⟨h, Nat.zero_le _, fun e he => by rw [List.mem_singleton.1 he]; exact oneX_l id⟩
theorem need_lw (h : IdX id) : LW (needX id) :=
  small_lw h.ok (by show (0 : Int) ≤ 4 ∧ (4 : Int) ≤ 100; decide) (by show (0 : Int) ≤ 2 ∧ (2 : Int) ≤ 100; decide) (by show (0 : Int) ≤ 1 ∧ (1 : Int) ≤ 100; decide) (by show ∀ y ∈ [(0 : Int), 0], 0 ≤ y ∧ y ≤ 100; decide) (by show (0 : Int) ≤ 1 ∧ (1 : Int) ≤ 100; decide) (by show (0 : Int) ≤ 1 ∧ (1 : Int) ≤ 100; decide) (fun e he => by cases he) (fun y hy => by cases hy)
theorem need_l (id : List Int) : LtL (needX id) := ⟨by show (2 : Nat) ≤ _; decide, Nat.zero_le _, fun e he => by cases he⟩
theorem ship_lw (h : IdX id) {c : Int} (hc : 0 ≤ c ∧ c < 256) : LW (shipL (needX id) [c] [1, 0]) :=
  small_lw h.ok (by show (0 : Int) ≤ 5 ∧ (5 : Int) ≤ 100; decide) (by show (0 : Int) ≤ 1 ∧ (1 : Int) ≤ 100; decide) (by show (0 : Int) ≤ 2 ∧ (2 : Int) ≤ 100; decide) s10 (by show (0 : Int) ≤ 1 ∧ (1 : Int) ≤ 100; decide) (by show (0 : Int) ≤ 1 ∧ (1 : Int) ≤ 100; decide) (fun e he => by cases he) (fun y hy => by rw [List.mem_singleton.1 hy]; exact hc)
theorem ship_l (id : List Int) (c : Int) : LtL (shipL (needX id) [c] [1, 0]) := ⟨by show (2 : Nat) ≤ _; decide, by show (1 : Nat) ≤ _; decide, fun e he => by cases he⟩
end
section
variable {b : World} {F : List SP}
set_option maxRecDepth 20000 in
set_option maxHeartbeats 8000000 in
theorem awake25_S : SC Tryz.prog n_entrepotlaw25_awake [] b F (fun v F' => v = .bool true ∧ F' = F) := by
  have hx0 := sha120_x
  have hone : ∀ {F' : List SP}, SC Tryz.prog n_entrepotlaw25_one [] b F' (fun v G => ∃ dv rv, v = evV ((oneX sha120).own dv rv) ∧ G = rZ dv [0, 0] :: rD rv [sha120] :: F') := oneX_S
  have hneed : ∀ {F' : List SP}, SC Tryz.prog n_entrepotlaw25_need [] b F' (fun v G => ∃ y : Lt, nL y = nL (needX sha120) ∧ v = ltV y ∧ G = lP y :: F') := needX_S
  generalize sha120 = id at hx0 hone hneed
  have h32 := hx0.ok.1
  have hnw := oneNote_lw hx0
  refine enterS F_entrepotlaw25_awake rfl rfl rfl ?_
  (refine sw_seq (sw_region ?_); refine so_1 rfl ?_; refine so_nil (sn_then ?_); refine sw_seq (sw_region ?_))
  refine so_call rfl rfl rfl (hone) ?_
  rintro _ _ ⟨dv1, rv1, rfl, rfl⟩
  refine so_lit (ints [1, 0]) rfl rfl rfl rfl rfl rfl rfl rfl rfl fun gl1 => ?_
  refine so_call rfl rfl rfl (Note_S (e := (oneX id).own dv1 rv1) (seen := [1, 0]) h32 (er_rows (e := oneX id) (j := 1) (k := 2) rfl rfl) (by show (2 : Nat) ≤ _; decide) (by show (1 : Nat) ≤ _; decide) (fun w H => (H.blk (k := 0) rfl).sl rfl (by decide)) (by decide)) ?_
  rintro _ _ ⟨y1, hy1, rfl, rfl⟩
  replace hy1 : nL y1 = nL (noteL (oneX id) 2 [1, 0]) := hy1
  refine so_ent ((ent_keep 7 [0, 1, 2, 3] rfl rfl).trans (ent_close (G := ltP y1))) ?_
  have y132 : y1.id.length = 32 := by rw [nL_id hy1]; rfl
  have y1l := ltC_len y132
  refine so_fact (fun w H => lr_form (lP_lr (y := y1) (k := 0) rfl w H)) ?_
  rintro ⟨y1a, y1b, y1c⟩
  have y11 := ltC_one y1a y1b y1c
  refine so_new rfl rfl rfl rfl rfl fun g1 => ?_
  refine so_stW 0 rfl rfl rfl rfl rfl rfl rfl y1l y11 (by rw [y1l]; rfl) ?_
  (refine so_nil (sn_then ?_); refine sw_seq (sw_region ?_))
  refine so_ldA 0 rfl rfl rfl rfl rfl rfl (segO_all (by rw [y1l]; rfl)) rfl ?_
  have hlw := lw_nL hy1 hnw
  have hll := ltl_nL hy1 (oneNote_l id [1, 0] (by decide))
  refine so_call rfl rfl rfl (EncodeT_S (lP_lr (y := y1) (k := 1) rfl) hlw hll.ev hll.seen hll.bs) ?_
  rintro _ _ ⟨rb, rfl, rfl⟩
  obtain ⟨he0, hB, hdec, _⟩ := chkT_enc (chk_note hx0) (fun e he => by rw [List.mem_singleton.1 he]; exact evN_of (oneX_ew hx0.ok)) rfl
  have hbyte := encT_bytes hnw
  rw [encT_nL hy1, he0]
  rw [hB] at hbyte ⊢
  have hlen := (encT_ok he0).2.2.2.1
  generalize ltB (noteL (oneX id) 2 [1, 0]) = B at hdec hbyte hlen ⊢
  ((iterate 5 refine so_1 rfl ?_); refine so_nil (sn_then ?_); refine sw_seq (sw_region ?_); refine so_1 rfl ?_)
  refine so_call rfl rfl rfl (DecodeT_S (vlB (l := B) (k := 0) rfl) (by omega) hbyte) ?_
  rintro _ _ ⟨z, hz, rfl, rfl⟩
  rw [hdec] at hz ⊢
  dsimp only at hz ⊢
  refine so_ent (ent_close (G := ltP z)) ?_
  have hz' : nL z = nL y1 := by rw [hz, hy1]
  have z32 : z.id.length = 32 := by rw [nL_id hz']; exact y132
  have zl := ltC_len z32
  refine so_fact (fun w H => lr_form (lP_lr (y := z) (k := 0) rfl w H)) ?_
  rintro ⟨za, zb, zc⟩
  have z1 := ltC_one za zb zc
  ((iterate 3 refine so_1 rfl ?_))
  refine so_new rfl rfl rfl rfl rfl fun g4 => ?_
  refine so_new rfl rfl rfl rfl rfl fun g5 => ?_
  refine so_stW 1 rfl rfl rfl rfl rfl rfl rfl zl z1 (by rw [zl]; rfl) ?_
  (refine so_s1 0 rfl rfl rfl rfl ?_; refine so_nil (sn_then ?_); refine sw_seq (sw_region ?_))
  refine so_ldA 4 rfl rfl rfl rfl rfl rfl (segO_all (by rw [y1l]; rfl)) rfl ?_
  refine so_callE rfl rfl rfl (checks_S (lP_lr (y := y1) (k := 5) rfl) hlw hll) ?_
  refine so_know 20 (.bool true) rfl (by rw [chkT_nL hy1, chk_note hx0]; rfl) ?_
  (refine so_1 rfl ?_)
  refine so_call rfl rfl rfl (hneed) ?_
  rintro _ _ ⟨n1, hn1, rfl, rfl⟩
  refine so_callE rfl rfl rfl (checks_S (lP_lr (y := n1) (k := 0) rfl) (lw_nL hn1 (need_lw hx0)) (ltl_nL hn1 (need_l id))) ?_
  refine so_know 23 (.bool true) rfl (by rw [chkT_nL hn1, chk_need hx0]; rfl) ?_
  ((iterate 2 refine so_1 rfl ?_))
  refine so_call rfl rfl rfl (hneed) ?_
  rintro _ _ ⟨n2, hn2, rfl, rfl⟩
  refine so_lit ([120].map (Value.int .u8)) rfl rfl rfl rfl rfl rfl rfl rfl rfl fun gxs1 => ?_
  refine so_mark 0 rfl rfl rfl rfl rfl rfl rfl rfl ?_
  refine so_lit (ints [1, 0]) rfl rfl rfl rfl rfl rfl rfl rfl rfl fun gzs1 => ?_
  refine so_call rfl rfl rfl (Ship_S (a := n2) (bs := [120]) (seen := [1, 0]) (by rw [nL_id hn2]; exact h32) (fun w H => H.ptz_vl (k := 1) rfl rfl (Nat.le_refl _) (by omega) (fun j hj => rfl)) (by decide) (fun w H => (H.blk (k := 0) rfl).sl rfl (by decide)) (by decide)) ?_
  rintro _ _ ⟨s1, hs1, rfl, rfl⟩
  have hs1 : nL s1 = nL (shipL (needX id) [120] [1, 0]) := by
    rw [hs1]
    have e1 : n2.to' = 1 := (congrArg Lt.to' hn2 : (nL n2).to' = (nL (needX id)).to')
    have e2 : n2.from' = 2 := (congrArg Lt.from' hn2 : (nL n2).from' = (nL (needX id)).from')
    have e3 : n2.r = 1 := (congrArg Lt.r hn2 : (nL n2).r = (nL (needX id)).r)
    have e4 : n2.n = 1 := (congrArg Lt.n hn2 : (nL n2).n = (nL (needX id)).n)
    have e5 : n2.id = id := nL_id hn2
    unfold shipL
    rw [e1, e2, e3, e4, e5]; rfl
  refine so_ent ((ent_keep 7 [0, 1, 2, 3] rfl rfl).trans (ent_close (G := ltP s1))) ?_
  skip
  refine so_callE rfl rfl rfl (checks_S (lP_lr (y := s1) (k := 0) rfl) (lw_nL hs1 (ship_lw hx0 (by decide))) (ltl_nL hs1 (ship_l id 120))) ?_
  refine so_know 31 (.bool true) rfl (by rw [chkT_nL hs1, chk_shipX hx0]; rfl) ?_
  ((iterate 6 refine so_1 rfl ?_); refine so_l 2 rfl rfl rfl ?_; refine so_1 rfl ?_)
  refine so_pu rfl (pu_eqA rfl rfl (eq_fault 0 0 0 0)) rfl ?_
  ((iterate 2 refine so_1 rfl ?_))
  refine so_ldA 6 rfl rfl rfl rfl rfl rfl (segO_all (by rw [y1l]; rfl)) rfl ?_
  refine so_ldA 3 rfl rfl rfl rfl rfl rfl (segO_all (by rw [zl]; rfl)) rfl ?_
  refine so_callE rfl rfl rfl (SameLetter_S hz'.symm (lP_lr (y := y1) (k := 7) rfl) (lP_lr (y := z) (k := 4) rfl) y132 (ev_nE (P := fun e => e.id.length = 32 ∧ len32 e.refs ∧ e.refs.length ≤ 1000000) same_nE (nL_evs hy1) (fun e he => by rw [List.mem_singleton.1 he]; exact ⟨h32, (oneX_ew hx0.ok).r32, by show (1 : Nat) ≤ _; decide⟩))) ?_
  ((iterate 2 refine so_1 rfl ?_); refine so_nil (sn_then ?_); refine sw_ret ?_)
  refine sn_ret rfl (.tmp rfl .nil) (ent_keep 8 [] rfl rfl) ?_
  exact ⟨rfl, rfl⟩
end
end Go.Proofs.YtmeiadgpglpelaaGreat
/- Letters: the chapter's examples (LetterKnown). Conditions: none. -/
namespace Go.Proofs.YtmeiadgpglpelaaGreat
open Go Go.Eng Go.RowKit

theorem nilE (w : World) : EL w nS [] := ⟨⟨none, 0, rfl, rfl, Nat.le_refl _, by decide, fun _ => rfl, fun h => absurd h (by decide)⟩, fun e he => by cases he⟩
theorem nil_slB (w : World) : VL (Value.int .u8) w nS [] := ⟨none, 0, rfl, rfl, Nat.le_refl _, by decide, fun _ => rfl, fun h => absurd h (by decide)⟩
section
variable {b : World} {F : List SP}
set_option maxRecDepth 20000 in
set_option maxHeartbeats 16000000 in
theorem Known25_S : SC Tryz.prog n_entrepotlaw25_LetterKnown [] b F (fun v F' => v = .bool true ∧ F' = F) := by
  have hx0 := sha120_x
  have hone : ∀ {F' : List SP}, SC Tryz.prog n_entrepotlaw25_one [] b F' (fun v G => ∃ dv rv, v = evV ((oneX sha120).own dv rv) ∧ G = rZ dv [0, 0] :: rD rv [sha120] :: F') := oneX_S
  have hneed : ∀ {F' : List SP}, SC Tryz.prog n_entrepotlaw25_need [] b F' (fun v G => ∃ y : Lt, nL y = nL (needX sha120) ∧ v = ltV y ∧ G = lP y :: F') := needX_S
  generalize sha120 = id at hx0 hone hneed
  have h32 := hx0.ok.1
  have hnw := oneNote_lw hx0
  refine enterS F_entrepotlaw25_LetterKnown rfl rfl rfl ?_
  (refine sw_seq (sw_region ?_); refine so_1 rfl ?_; refine so_nil (sn_then ?_); refine sw_seq (sw_region ?_))
  refine so_call rfl rfl rfl (hone) ?_
  rintro _ _ ⟨dv1, rv1, rfl, rfl⟩
  refine so_lit (ints [1, 0]) rfl rfl rfl rfl rfl rfl rfl rfl rfl fun gl1 => ?_
  refine so_call rfl rfl rfl (Note_S (e := (oneX id).own dv1 rv1) (seen := [1, 0]) h32 (er_rows (e := oneX id) (j := 1) (k := 2) rfl rfl) (by show (2 : Nat) ≤ _; decide) (by show (1 : Nat) ≤ _; decide) (fun w H => (H.blk (k := 0) rfl).sl rfl (by decide)) (by decide)) ?_
  rintro _ _ ⟨y1, hy1, rfl, rfl⟩
  replace hy1 : nL y1 = nL (noteL (oneX id) 2 [1, 0]) := hy1
  refine so_ent ((ent_keep 7 [0, 1, 2, 3] rfl rfl).trans (ent_close (G := ltP y1))) ?_
  refine so_call rfl rfl rfl (hone) ?_
  rintro _ _ ⟨dv2, rv2, rfl, rfl⟩
  refine so_lit (ints [1]) rfl rfl rfl rfl rfl rfl rfl rfl rfl fun gl2 => ?_
  refine so_call rfl rfl rfl (Note_S (e := (oneX id).own dv2 rv2) (seen := [1]) h32 (er_rows (e := oneX id) (j := 1) (k := 2) rfl rfl) (by show (2 : Nat) ≤ _; decide) (by show (1 : Nat) ≤ _; decide) (fun w H => (H.blk (k := 0) rfl).sl rfl (by decide)) (by decide)) ?_
  rintro _ _ ⟨y2, hy2, rfl, rfl⟩
  replace hy2 : nL y2 = nL (noteL (oneX id) 2 [1]) := hy2
  refine so_ent ((ent_keep 7 [0, 1, 2, 3] rfl rfl).trans (ent_close (G := ltP y2))) ?_
  refine so_call rfl rfl rfl (hone) ?_
  rintro _ _ ⟨dv3, rv3, rfl, rfl⟩
  refine so_lit (ints [1, 0]) rfl rfl rfl rfl rfl rfl rfl rfl rfl fun gl3 => ?_
  refine so_call rfl rfl rfl (Note_S (e := (oneX id).own dv3 rv3) (seen := [1, 0]) h32 (er_rows (e := oneX id) (j := 1) (k := 2) rfl rfl) (by show (2 : Nat) ≤ _; decide) (by show (1 : Nat) ≤ _; decide) (fun w H => (H.blk (k := 0) rfl).sl rfl (by decide)) (by decide)) ?_
  rintro _ _ ⟨y3, hy3, rfl, rfl⟩
  replace hy3 : nL y3 = nL (noteL (oneX id) 2 [1, 0]) := hy3
  refine so_ent ((ent_keep 7 [0, 1, 2, 3] rfl rfl).trans (ent_close (G := ltP y3))) ?_
  refine so_call rfl rfl rfl (hone) ?_
  rintro _ _ ⟨dv4, rv4, rfl, rfl⟩
  refine so_lit (ints [1, 0]) rfl rfl rfl rfl rfl rfl rfl rfl rfl fun gl4 => ?_
  refine so_call rfl rfl rfl (Note_S (e := (oneX id).own dv4 rv4) (seen := [1, 0]) h32 (er_rows (e := oneX id) (j := 1) (k := 2) rfl rfl) (by show (2 : Nat) ≤ _; decide) (by show (1 : Nat) ≤ _; decide) (fun w H => (H.blk (k := 0) rfl).sl rfl (by decide)) (by decide)) ?_
  rintro _ _ ⟨y4, hy4, rfl, rfl⟩
  replace hy4 : nL y4 = nL (noteL (oneX id) 2 [1, 0]) := hy4
  refine so_ent ((ent_keep 7 [0, 1, 2, 3] rfl rfl).trans (ent_close (G := ltP y4))) ?_
  refine so_call rfl rfl rfl (hone) ?_
  rintro _ _ ⟨dv5, rv5, rfl, rfl⟩
  refine so_lit (ints [1, 0]) rfl rfl rfl rfl rfl rfl rfl rfl rfl fun gl5 => ?_
  refine so_call rfl rfl rfl (Note_S (e := (oneX id).own dv5 rv5) (seen := [1, 0]) h32 (er_rows (e := oneX id) (j := 1) (k := 2) rfl rfl) (by show (2 : Nat) ≤ _; decide) (by show (1 : Nat) ≤ _; decide) (fun w H => (H.blk (k := 0) rfl).sl rfl (by decide)) (by decide)) ?_
  rintro _ _ ⟨y5, hy5, rfl, rfl⟩
  replace hy5 : nL y5 = nL (noteL (oneX id) 2 [1, 0]) := hy5
  refine so_ent ((ent_keep 7 [0, 1, 2, 3] rfl rfl).trans (ent_close (G := ltP y5))) ?_
  have y132 : y1.id.length = 32 := by rw [nL_id hy1]; rfl
  have y1l := ltC_len y132
  have y232 : y2.id.length = 32 := by rw [nL_id hy2]; rfl
  have y2l := ltC_len y232
  have y332 : y3.id.length = 32 := by rw [nL_id hy3]; rfl
  have y3l := ltC_len y332
  have y432 : y4.id.length = 32 := by rw [nL_id hy4]; rfl
  have y4l := ltC_len y432
  have y532 : y5.id.length = 32 := by rw [nL_id hy5]; rfl
  have y5l := ltC_len y532
  refine so_fact (fun w H => lr_form (lP_lr (y := y1) (k := 4) rfl w H)) ?_
  rintro ⟨y1a, y1b, y1c⟩
  have y11 := ltC_one y1a y1b y1c
  refine so_fact (fun w H => lr_form (lP_lr (y := y2) (k := 3) rfl w H)) ?_
  rintro ⟨y2a, y2b, y2c⟩
  have y21 := ltC_one y2a y2b y2c
  refine so_fact (fun w H => lr_form (lP_lr (y := y3) (k := 2) rfl w H)) ?_
  rintro ⟨y3a, y3b, y3c⟩
  have y31 := ltC_one y3a y3b y3c
  refine so_fact (fun w H => lr_form (lP_lr (y := y4) (k := 1) rfl w H)) ?_
  rintro ⟨y4a, y4b, y4c⟩
  have y41 := ltC_one y4a y4b y4c
  refine so_fact (fun w H => lr_form (lP_lr (y := y5) (k := 0) rfl w H)) ?_
  rintro ⟨y5a, y5b, y5c⟩
  have y51 := ltC_one y5a y5b y5c
  refine so_new rfl rfl rfl rfl rfl fun g1 => ?_
  refine so_new rfl rfl rfl rfl rfl fun g2 => ?_
  refine so_new rfl rfl rfl rfl rfl fun g3 => ?_
  refine so_new rfl rfl rfl rfl rfl fun g4 => ?_
  refine so_new rfl rfl rfl rfl rfl fun g5 => ?_
  refine so_stW 4 rfl rfl rfl rfl rfl rfl rfl y1l y11 (by rw [y1l]; rfl) ?_
  refine so_stW 3 rfl rfl rfl rfl rfl rfl rfl y2l y21 (by rw [y2l]; rfl) ?_
  refine so_stW 2 rfl rfl rfl rfl rfl rfl rfl y3l y31 (by rw [y3l]; rfl) ?_
  refine so_stW 1 rfl rfl rfl rfl rfl rfl rfl y4l y41 (by rw [y4l]; rfl) ?_
  refine so_stW 0 rfl rfl rfl rfl rfl rfl rfl y5l y51 (by rw [y5l]; rfl) ?_
  (refine so_nil (sn_then ?_); refine sw_seq (sw_region ?_); refine so_1 rfl ?_; refine so_s1 4 rfl rfl rfl rfl ?_; refine so_nil (sn_then ?_); refine sw_seq (sw_region ?_); refine so_1 rfl ?_; refine so_s1 2 rfl rfl rfl rfl ?_; refine so_nil (sn_then ?_); refine sw_seq (sw_region ?_))
  refine so_lit ([120].map (Value.int .u8)) rfl rfl rfl rfl rfl rfl rfl rfl rfl fun gx => ?_
  refine so_mark 0 rfl rfl rfl rfl rfl rfl rfl rfl ?_
  (refine so_1 rfl ?_)
  refine so_st 2 rfl rfl rfl rfl rfl rfl rfl rfl (ltC_stbv (x := y4) y432) rfl ?_
  (refine so_nil (sn_then ?_); refine sw_seq (sw_region ?_); refine so_1 rfl ?_; refine so_s1 1 rfl rfl rfl rfl ?_; refine so_nil (sn_then ?_); refine sw_seq (sw_region ?_))
  refine so_ent (G := ptz gx t_uint8 (1, 2) [.int .u8 120] :: pt g5 t_api_Letter (ltC { y5 with ev := nS, evs := [] }) :: pt g4 t_api_Letter (ltC { y4 with bv := .slice (some ⟨gx, 0, none⟩) 1 1, bs := [120] }) :: pt g3 t_api_Letter (ltC { y3 with kind := 6 }) :: pt g2 t_api_Letter (ltC y2) :: pt g1 t_api_Letter (ltC { y1 with from' := 2 }) :: lP y5 :: lP y4 :: lP y3 :: lP y2 :: lP y1 :: F) (Ent.refl _) ?_
  refine so_call rfl rfl rfl (hneed) ?_
  rintro _ _ ⟨n1, hn1, rfl, rfl⟩
  refine so_lit ([121].map (Value.int .u8)) rfl rfl rfl rfl rfl rfl rfl rfl rfl fun gxs1 => ?_
  refine so_mark 0 rfl rfl rfl rfl rfl rfl rfl rfl ?_
  refine so_lit (ints [1, 0]) rfl rfl rfl rfl rfl rfl rfl rfl rfl fun gzs1 => ?_
  refine so_call rfl rfl rfl (Ship_S (a := n1) (bs := [121]) (seen := [1, 0]) (by rw [nL_id hn1]; exact h32) (fun w H => H.ptz_vl (k := 1) rfl rfl (Nat.le_refl _) (by omega) (fun j hj => rfl)) (by decide) (fun w H => (H.blk (k := 0) rfl).sl rfl (by decide)) (by decide)) ?_
  rintro _ _ ⟨s1, hs1, rfl, rfl⟩
  have hs1 : nL s1 = nL (shipL (needX id) [121] [1, 0]) := by
    rw [hs1]
    have e1 : n1.to' = 1 := (congrArg Lt.to' hn1 : (nL n1).to' = (nL (needX id)).to')
    have e2 : n1.from' = 2 := (congrArg Lt.from' hn1 : (nL n1).from' = (nL (needX id)).from')
    have e3 : n1.r = 1 := (congrArg Lt.r hn1 : (nL n1).r = (nL (needX id)).r)
    have e4 : n1.n = 1 := (congrArg Lt.n hn1 : (nL n1).n = (nL (needX id)).n)
    have e5 : n1.id = id := nL_id hn1
    unfold shipL
    rw [e1, e2, e3, e4, e5]; rfl
  refine so_ent ((ent_keep 7 [0, 1, 2, 3] rfl rfl).trans (ent_close (G := ltP s1))) ?_
  refine so_call rfl rfl rfl (hneed) ?_
  rintro _ _ ⟨n2, hn2, rfl, rfl⟩
  refine so_lit ([120].map (Value.int .u8)) rfl rfl rfl rfl rfl rfl rfl rfl rfl fun gxs2 => ?_
  refine so_mark 0 rfl rfl rfl rfl rfl rfl rfl rfl ?_
  refine so_lit (ints [1, 0]) rfl rfl rfl rfl rfl rfl rfl rfl rfl fun gzs2 => ?_
  refine so_call rfl rfl rfl (Ship_S (a := n2) (bs := [120]) (seen := [1, 0]) (by rw [nL_id hn2]; exact h32) (fun w H => H.ptz_vl (k := 1) rfl rfl (Nat.le_refl _) (by omega) (fun j hj => rfl)) (by decide) (fun w H => (H.blk (k := 0) rfl).sl rfl (by decide)) (by decide)) ?_
  rintro _ _ ⟨s2, hs2, rfl, rfl⟩
  have hs2 : nL s2 = nL (shipL (needX id) [120] [1, 0]) := by
    rw [hs2]
    have e1 : n2.to' = 1 := (congrArg Lt.to' hn2 : (nL n2).to' = (nL (needX id)).to')
    have e2 : n2.from' = 2 := (congrArg Lt.from' hn2 : (nL n2).from' = (nL (needX id)).from')
    have e3 : n2.r = 1 := (congrArg Lt.r hn2 : (nL n2).r = (nL (needX id)).r)
    have e4 : n2.n = 1 := (congrArg Lt.n hn2 : (nL n2).n = (nL (needX id)).n)
    have e5 : n2.id = id := nL_id hn2
    unfold shipL
    rw [e1, e2, e3, e4, e5]; rfl
  refine so_ent ((ent_keep 7 [0, 1, 2, 3] rfl rfl).trans (ent_close (G := ltP s2))) ?_
  have s132 : s1.id.length = 32 := by rw [nL_id hs1]; exact h32
  have s1l := ltC_len s132
  have s232 : s2.id.length = 32 := by rw [nL_id hs2]; exact h32
  have s2l := ltC_len s232
  refine so_fact (fun w H => lr_form (lP_lr (y := s1) (k := 1) rfl w H)) ?_
  rintro ⟨s1a, s1b, s1c⟩
  have s11 := ltC_one s1a s1b s1c
  refine so_fact (fun w H => lr_form (lP_lr (y := s2) (k := 0) rfl w H)) ?_
  rintro ⟨s2a, s2b, s2c⟩
  have s21 := ltC_one s2a s2b s2c

  refine so_new rfl rfl rfl rfl rfl fun g6 => ?_
  refine so_new rfl rfl rfl rfl rfl fun g7 => ?_
  refine so_stW 1 rfl rfl rfl rfl rfl rfl rfl s1l s11 (by rw [s1l]; rfl) ?_
  refine so_stW 0 rfl rfl rfl rfl rfl rfl rfl s2l s21 (by rw [s2l]; rfl) ?_
  (refine so_nil (sn_then ?_); refine sw_seq (sw_region ?_); (iterate 2 refine so_1 rfl ?_))
  refine so_stA (vs := [.int .i64 0, .int .i64 0]) (cs' := ltC { s2 with r := 0, n := 0 }) 0 rfl rfl rfl rfl rfl rfl rfl rfl rfl ltC_stdot rfl ?_
  (refine so_nil (sn_then ?_); refine sw_seq (sw_region ?_))
  refine so_lit (ints [1, 0]) rfl rfl rfl rfl rfl rfl rfl rfl rfl fun gg => ?_
  (refine so_1 rfl ?_)
  refine so_new rfl rfl rfl rfl rfl fun g8 => ?_
  (refine so_s1 0 rfl rfl rfl rfl ?_; refine so_nil (sn_then ?_); refine sw_seq (sw_region ?_); refine so_l 0 rfl rfl rfl ?_)
  refine so_new rfl rfl rfl rfl rfl fun g9 => ?_
  (refine so_s1 0 rfl rfl rfl rfl ?_; refine so_nil (sn_then ?_); refine sw_seq (sw_region ?_))
  refine so_call rfl rfl rfl (hone) ?_
  rintro _ _ ⟨dva, rva, rfl, rfl⟩
  refine so_call rfl rfl rfl (hone) ?_
  rintro _ _ ⟨dvb, rvb, rfl, rfl⟩
  refine so_fact (fun w H => (⟨er_form (er_rows (e := oneX id) (j := 2) (k := 3) rfl rfl w H), er_form (er_rows (e := oneX id) (j := 0) (k := 1) rfl rfl w H)⟩ : (dva.oneCell' = true ∧ rva.oneCell' = true) ∧ (dvb.oneCell' = true ∧ rvb.oneCell' = true))) ?_
  rintro ⟨⟨a1, a2⟩, ⟨b1, b2⟩⟩
  have al : (evC ((oneX id).own dva rva)).length = 39 := evC_len h32
  have bl : (evC ((oneX id).own dvb rvb)).length = 39 := evC_len h32
  refine so_lit2 rfl rfl rfl rfl rfl rfl rfl rfl rfl (by rw [al]; rfl) (by rw [bl]; rfl) (by decide) fun ge => ?_
  (refine so_1 rfl ?_; refine so_s1 5 rfl rfl rfl rfl ?_; refine so_nil (sn_then ?_); refine sw_seq (sw_region ?_))
  refine so_ent (G := pt ge t_api_Event (evC ((oneX id).own dva rva) ++ evC ((oneX id).own dvb rvb)) :: rZ dvb [0, 0] :: rD rvb [id] :: rZ dva [0, 0] :: rD rva [id] :: pt g9 t_api_Letter (ltC { giveX with sv := .slice (some ⟨gg, 0, none⟩) 2 2, ev := .slice (some ⟨ge, 0, none⟩) 2 2, evs := [(oneX id).own dva rva, (oneX id).own dvb rvb] }) :: pt g8 t_api_Letter (ltC { giveX with sv := .slice (some ⟨gg, 0, none⟩) 2 2 }) :: pt gg t_int (ints [1, 0]) :: pt g7 t_api_Letter (ltC { s2 with r := 0, n := 0 }) :: pt g6 t_api_Letter (ltC s1) :: lP s2 :: lP s1 :: ptz gx t_uint8 (1, 2) [.int .u8 120] :: pt g5 t_api_Letter (ltC { y5 with ev := nS, evs := [] }) :: pt g4 t_api_Letter (ltC { y4 with bv := .slice (some ⟨gx, 0, none⟩) 1 1, bs := [120] }) :: pt g3 t_api_Letter (ltC { y3 with kind := 6 }) :: pt g2 t_api_Letter (ltC y2) :: pt g1 t_api_Letter (ltC { y1 with from' := 2 }) :: lP y5 :: lP y4 :: lP y3 :: lP y2 :: lP y1 :: F) (Ent.refl _) ?_
  have hnl := oneNote_l id [1, 0] (by decide)
  have i2 : I64 2 := ⟨by decide, by decide⟩
  have i6 : I64 6 := ⟨by decide, by decide⟩
  have d0 : dotOk (0, 0) := ⟨by decide, by decide⟩
  have wa : LW { y1 with from' := 2 } := have w := lw_nL hy1 hnw; ⟨w.kind, i2, w.to', w.seen, w.evs, w.dot, w.id, w.bs⟩
  have la : LtL { y1 with from' := 2 } := have l := ltl_nL hy1 hnl; ⟨l.seen, l.bs, l.ev⟩
  have va : chkT { y1 with from' := 2 } 2 32 = 2 := (chkT_nL (x := { noteL (oneX id) 2 [1, 0] with from' := 2 }) (congrArg (fun z : Lt => { z with from' := 2 }) hy1 : _) 2 32).trans rfl
  have hnb : LW (noteL (oneX id) 2 [1]) := note_lw (oneX_ew hx0.ok) (by show (0 : Int) ≤ 1 ∧ (1 : Int) ≤ 100; decide) (by decide) (by decide)
  have wb := lw_nL hy2 hnb
  have lb := ltl_nL hy2 (oneNote_l id [1] (by decide))
  have vb : chkT y2 2 32 = 2 := (chkT_nL hy2 2 32).trans rfl
  have wc : LW { y3 with kind := 6 } := have w := lw_nL hy3 hnw; ⟨i6, w.from', w.to', w.seen, w.evs, w.dot, w.id, w.bs⟩
  have lc : LtL { y3 with kind := 6 } := have l := ltl_nL hy3 hnl; ⟨l.seen, l.bs, l.ev⟩
  have vc : chkT { y3 with kind := 6 } 2 32 = 5 := (chkT_nL (x := { noteL (oneX id) 2 [1, 0] with kind := 6 }) (congrArg (fun z : Lt => { z with kind := 6 }) hy3 : _) 2 32).trans rfl
  have wd : LW { y4 with bv := .slice (some ⟨gx, 0, none⟩) 1 1, bs := [120] } := have w := lw_nL hy4 hnw; ⟨w.kind, w.from', w.to', w.seen, w.evs, w.dot, w.id, by show byteOk [120]; intro z hz; rw [List.mem_singleton.1 hz]; decide⟩
  have ld : LtL { y4 with bv := .slice (some ⟨gx, 0, none⟩) 1 1, bs := [120] } := have l := ltl_nL hy4 hnl; ⟨l.seen, by show (1 : Nat) ≤ _; decide, l.ev⟩
  have vd : chkT { y4 with bv := .slice (some ⟨gx, 0, none⟩) 1 1, bs := [120] } 2 32 = 2 := (chkT_nL (x := { noteL (oneX id) 2 [1, 0] with bs := [120] }) (congrArg (fun z : Lt => { z with bs := [120] }) hy4 : _) 2 32).trans rfl
  have we : LW { y5 with ev := nS, evs := [] } := have w := lw_nL hy5 hnw; ⟨w.kind, w.from', w.to', w.seen, fun e he => (by cases he), w.dot, w.id, w.bs⟩
  have le : LtL { y5 with ev := nS, evs := [] } := have l := ltl_nL hy5 hnl; ⟨l.seen, l.bs, fun e he => (by cases he)⟩
  have ve : chkT { y5 with ev := nS, evs := [] } 2 32 = 2 := (chkT_nL (x := { noteL (oneX id) 2 [1, 0] with evs := [] }) (congrArg (fun z : Lt => { z with evs := [] }) hy5 : _) 2 32).trans rfl
  have wy := lw_nL hs1 (ship_lw hx0 (c := 121) (by decide))
  have ly := ltl_nL hs1 (ship_l id 121)
  have vy : chkT s1 2 32 = 8 := (chkT_nL hs1 2 32).trans (chk_shipY hx0)
  have wz : LW { s2 with r := 0, n := 0 } := have w := lw_nL hs2 (ship_lw hx0 (c := 120) (by decide)); ⟨w.kind, w.from', w.to', w.seen, w.evs, d0, w.id, w.bs⟩
  have lz : LtL { s2 with r := 0, n := 0 } := have l := ltl_nL hs2 (ship_l id 120); ⟨l.seen, l.bs, l.ev⟩
  have vz : chkT { s2 with r := 0, n := 0 } 2 32 = 2 := (chkT_nL (x := { shipL (needX id) [120] [1, 0] with r := 0, n := 0 }) (congrArg (fun z : Lt => { z with r := 0, n := 0 }) hs2 : _) 2 32).trans chk_shipZ
  have q52 := ltC_len (x := { y1 with from' := 2 }) y132
  refine so_ldA 17 rfl rfl rfl rfl rfl rfl (segO_all (by rw [q52]; rfl)) rfl ?_
  refine so_callE rfl rfl rfl (checks_S (x := { y1 with from' := 2 }) (fun w H => (lP_lr (k := 22) rfl w H).of rfl rfl rfl rfl rfl rfl) wa la) ?_
  refine so_know 52 (.bool true) rfl (by rw [va]; rfl) ?_
  (refine so_1 rfl ?_)
  have q55 := ltC_len (x := y2) y232
  refine so_ldA 16 rfl rfl rfl rfl rfl rfl (segO_all (by rw [q55]; rfl)) rfl ?_
  refine so_callE rfl rfl rfl (checks_S (x := y2) (lP_lr (k := 21) rfl) wb lb) ?_
  refine so_know 55 (.bool true) rfl (by rw [vb]; rfl) ?_
  ((iterate 2 refine so_1 rfl ?_))
  have q59 := ltC_len (x := { y3 with kind := 6 }) y332
  refine so_ldA 15 rfl rfl rfl rfl rfl rfl (segO_all (by rw [q59]; rfl)) rfl ?_
  refine so_callE rfl rfl rfl (checks_S (x := { y3 with kind := 6 }) (fun w H => (lP_lr (k := 20) rfl w H).of rfl rfl rfl rfl rfl rfl) wc lc) ?_
  refine so_know 59 (.bool true) rfl (by rw [vc]; rfl) ?_
  ((iterate 2 refine so_1 rfl ?_))
  have q63 := ltC_len (x := { y4 with bv := .slice (some ⟨gx, 0, none⟩) 1 1, bs := [120] }) y432
  refine so_ldA 14 rfl rfl rfl rfl rfl rfl (segO_all (by rw [q63]; rfl)) rfl ?_
  refine so_callE rfl rfl rfl (checks_S (x := { y4 with bv := .slice (some ⟨gx, 0, none⟩) 1 1, bs := [120] }) (fun w H => ⟨(lP_lr (y := y4) (k := 19) rfl w H).sv, (lP_lr (y := y4) (k := 19) rfl w H).ev, H.ptz_vl (k := 12) rfl rfl (Nat.le_refl _) (by omega) (fun j hj => rfl)⟩) wd ld) ?_
  refine so_know 63 (.bool true) rfl (by rw [vd]; rfl) ?_
  ((iterate 2 refine so_1 rfl ?_))
  have q67 := ltC_len (x := { y5 with ev := nS, evs := [] }) y532
  refine so_ldA 13 rfl rfl rfl rfl rfl rfl (segO_all (by rw [q67]; rfl)) rfl ?_
  refine so_callE rfl rfl rfl (checks_S (x := { y5 with ev := nS, evs := [] }) (fun w H => ⟨(lP_lr (y := y5) (k := 18) rfl w H).sv, nilE w, (lP_lr (y := y5) (k := 18) rfl w H).bv⟩) we le) ?_
  refine so_know 67 (.bool true) rfl (by rw [ve]; rfl) ?_
  ((iterate 2 refine so_1 rfl ?_))
  have q71 := ltC_len (x := s1) s132
  refine so_ldA 9 rfl rfl rfl rfl rfl rfl (segO_all (by rw [q71]; rfl)) rfl ?_
  refine so_callE rfl rfl rfl (checks_S (x := s1) (lP_lr (k := 11) rfl) wy ly) ?_
  refine so_know 71 (.bool true) rfl (by rw [vy]; rfl) ?_
  ((iterate 2 refine so_1 rfl ?_))
  have q75 := ltC_len (x := { s2 with r := 0, n := 0 }) s232
  refine so_ldA 8 rfl rfl rfl rfl rfl rfl (segO_all (by rw [q75]; rfl)) rfl ?_
  refine so_callE rfl rfl rfl (checks_S (x := { s2 with r := 0, n := 0 }) (fun w H => (lP_lr (k := 10) rfl w H).of rfl rfl rfl rfl rfl rfl) wz lz) ?_
  refine so_know 75 (.bool true) rfl (by rw [vz]; rfl) ?_
  ((iterate 2 refine so_1 rfl ?_); refine so_nil (sn_then ?_); refine sw_seq (sw_region ?_))
  refine so_callE rfl rfl rfl (awake25_S) ?_
  ((iterate 4 refine so_1 rfl ?_))
  refine so_call rfl rfl rfl (hneed) ?_
  rintro _ _ ⟨n3, hn3, rfl, rfl⟩
  refine so_callE rfl rfl rfl (CheckT_S (lP_lr (y := n3) (k := 0) rfl) (lw_nL hn3 (need_lw hx0)) (ltl_nL hn3 (need_l id)).ev (ltl_nL hn3 (need_l id)).seen (ltl_nL hn3 (need_l id)).bs) ?_
  rw [chkT_nL hn3, chk_need1 hx0]
  ((iterate 3 refine so_1 rfl ?_); refine so_l 6 rfl rfl rfl ?_)
  have hgw : ∀ ev evs, (∀ e ∈ evs, EW e) → LW { giveX with sv := .slice (some ⟨gg, 0, none⟩) 2 2, ev := ev, evs := evs } := fun ev evs he => small_lw idOk_zero (by show (0 : Int) ≤ 3 ∧ (3 : Int) ≤ 100; decide) (by show (0 : Int) ≤ 1 ∧ (1 : Int) ≤ 100; decide) (by show (0 : Int) ≤ 2 ∧ (2 : Int) ≤ 100; decide) s10 (by show (0 : Int) ≤ 0 ∧ (0 : Int) ≤ 100; decide) (by show (0 : Int) ≤ 0 ∧ (0 : Int) ≤ 100; decide) he (fun y hy => by cases hy)
  have hgl : ∀ ev evs, (∀ e ∈ evs, EvL e) → LtL { giveX with sv := .slice (some ⟨gg, 0, none⟩) 2 2, ev := ev, evs := evs } := fun ev evs he => ⟨by show (2 : Nat) ≤ _; decide, Nat.zero_le _, he⟩
  have hab : ∀ (P : Ev → Prop), P ((oneX id).own dva rva) → P ((oneX id).own dvb rvb) → ∀ e ∈ [(oneX id).own dva rva, (oneX id).own dvb rvb], P e := fun P p1 p2 e he => by
    simp only [List.mem_cons, List.not_mem_nil, or_false] at he
    rcases he with rfl | rfl
    · exact p1
    · exact p2
  refine so_callE rfl rfl rfl (checks_S (x := { giveX with sv := .slice (some ⟨gg, 0, none⟩) 2 2, ev := .slice (some ⟨ge, 0, none⟩) 2 2, evs := [(oneX id).own dva rva, (oneX id).own dvb rvb] }) (fun w H => ⟨(H.blk (k := 8) rfl).sl rfl (by decide), ⟨by have := (H.blk (k := 1) rfl).sl (n := 2) (sz := 39) (by rw [List.length_append, al, bl]) (by decide); simpa [evsC, flC] using this, hab _ (er_rows (e := oneX id) (j := 4) (k := 5) rfl rfl w H) (er_rows (e := oneX id) (j := 2) (k := 3) rfl rfl w H)⟩, nil_slB w⟩) (hgw _ _ (hab _ ((oneX_ew hx0.ok).own _ _) ((oneX_ew hx0.ok).own _ _))) (hgl _ _ (hab _ (evl_nE _ (oneX id) rfl (oneX_l id)) (evl_nE _ (oneX id) rfl (oneX_l id))))) ?_
  have vt : chkT { giveX with sv := .slice (some ⟨gg, 0, none⟩) 2 2, ev := .slice (some ⟨ge, 0, none⟩) 2 2, evs := [(oneX id).own dva rva, (oneX id).own dvb rvb] } 2 32 = 25 := (chkT_nL (x := { giveX with evs := [oneX id, oneX id] }) rfl 2 32).trans (chk_twice hx0)
  refine so_know 88 (.bool true) rfl (by rw [vt]; rfl) ?_
  ((iterate 2 refine so_1 rfl ?_); refine so_l 7 rfl rfl rfl ?_)
  refine so_callE rfl rfl rfl (checks_S (x := { giveX with sv := .slice (some ⟨gg, 0, none⟩) 2 2, ev := nS, evs := [] }) (fun w H => ⟨(H.blk (k := 8) rfl).sl rfl (by decide), nilE w, nil_slB w⟩) (hgw _ _ (fun e he => by cases he)) (hgl _ _ (fun e he => by cases he))) ?_
  refine so_know 92 (.bool true) rfl rfl ?_
  ((iterate 2 refine so_1 rfl ?_))
  refine so_lit (ints [0, 0]) rfl rfl rfl rfl rfl rfl rfl rfl rfl fun gk => ?_
  (refine so_1 rfl ?_)
  refine so_callE rfl rfl rfl (checks_S (x := { askX with sv := .slice (some ⟨gk, 0, none⟩) 2 2 }) (fun w H => ⟨(H.blk (k := 0) rfl).sl rfl (by decide), nilE w, nil_slB w⟩) (small_lw idOk_zero (by show (0 : Int) ≤ 2 ∧ (2 : Int) ≤ 100; decide) (by show (0 : Int) ≤ 1 ∧ (1 : Int) ≤ 100; decide) (by show (0 : Int) ≤ 1 ∧ (1 : Int) ≤ 100; decide) (by show ∀ y ∈ [(0 : Int), 0], 0 ≤ y ∧ y ≤ 100; decide) (by show (0 : Int) ≤ 0 ∧ (0 : Int) ≤ 100; decide) (by show (0 : Int) ≤ 0 ∧ (0 : Int) ≤ 100; decide) (fun e he => by cases he) (fun y hy => by cases hy)) ⟨by show (2 : Nat) ≤ _; decide, Nat.zero_le _, fun e he => by cases he⟩) ?_
  refine so_know 97 (.bool true) rfl rfl ?_
  ((iterate 2 refine so_1 rfl ?_); refine so_nil (sn_then ?_); refine sw_ret ?_)
  refine sn_ret rfl (.tmp rfl .nil) (ent_keep 25 [] rfl rfl) ?_
  exact ⟨rfl, rfl⟩
end
theorem walk_LetterKnown {W : World} : Calls Tryz.prog n_entrepotlaw25_LetterKnown #[] W (fun e w' => e = .returned (.bool true) ∧ Ext W w') := law_of (args := []) Known25_S
end Go.Proofs.YtmeiadgpglpelaaGreat
/- Letters as arguments: read. Conditions: none. -/
namespace Go.Proofs.YtmeiadgpglpelaaGreat
open Go Go.Eng Go.RowKit

abbrev rdLt := rdN 1 (rdI .i64) (rdN 1 (rdI .i64) (rdN 1 (rdI .i64) (rdN 1 (rdL 1 (rdI .i64)) (rdN 1 (rdL 39 rdEv) (rdN 2 (rdN 1 (rdI .i64) (rdI .i64)) (rdN 32 (Go.Eng.rdA 32 .u8) (rdL 1 (rdI .u8))))))))
def ltOf (x : Int × Int × Int × (Value × List Int) × (Value × List ((Int × Int) × (Value × List Int) × Int × ByteArray × ByteArray × List Int × (Value × List (List Int)))) × (Int × Int) × List Int × (Value × List Int)) : Lt :=
  ⟨x.1, x.2.1, x.2.2.1, x.2.2.2.1.1, x.2.2.2.1.2, x.2.2.2.2.1.1, x.2.2.2.2.1.2.map evOf, x.2.2.2.2.2.1.1, x.2.2.2.2.2.1.2, x.2.2.2.2.2.2.1, x.2.2.2.2.2.2.2.1, x.2.2.2.2.2.2.2.2⟩
/-- A letter, as an argument. -/
structure LA (W : World) (v : Value) (l : Lt) : Prop where
  eq : v = ltV l
  lw : LW l
  lr : LR W l
theorem wf_byte {l : List Int} (h : ∀ n ∈ l, (Lit.int .u8 n).wf = true) : byteOk l := fun y hy => by
  have := h y hy
  simp [Lit.wf, IntKind.min, IntKind.max, IntKind.signed, IntKind.bits] at this
  omega
theorem lt_of_rd {W : World} {cs : Array Value} {x} (h : rdLt W (Value.agg cs).cells.toList x) : LA W (.agg cs) (ltOf x) := by
  obtain ⟨h1, h2, h3, h4, h5, h6, h7, h8⟩ := h
  obtain ⟨a1, a2⟩ := h1
  obtain ⟨b1, b2⟩ := h2
  obtain ⟨c1, c2⟩ := h3
  obtain ⟨d1, d2, d3⟩ := rdI_list h4
  have hev := rdL_flat (p := fun e => EW e ∧ ER W e) (fun cs x hx => ev_of_rd hx) h5
  obtain ⟨e1, e2, e3⟩ := hev
  obtain ⟨⟨f1, f2⟩, f3, f4⟩ := h6
  obtain ⟨g1, g2, g3⟩ := h7
  obtain ⟨i1, i2, i3⟩ := rdI_list h8
  have h4 : cs.toList = ltC (ltOf x) := cut_eq a1 (cut_eq b1 (cut_eq c1 (cut_eq d1 (cut_eq e1 (cut_eq (cut_eq f1 f3) (cut_eq g1 i1))))))
  exact ⟨by rw [ltV, ← h4], ⟨i64wf' a2, i64wf' b2, i64wf' c2, fun y hy => i64wf' (d3 y hy), fun e he => (e3 e he).1, ⟨f2, f4⟩, ⟨g2, g3⟩, wf_byte i3⟩, ⟨d2, ⟨e2, fun e he => (e3 e he).2⟩, i2⟩⟩
theorem LA.long {W : World} {v : Value} {l : Lt} (_ : LA W v l) (h : LL l) : LtL l := ⟨by have := h.seen; omega, by have := h.bs; omega, fun e he => by
  obtain ⟨q1, q2, q3, q4⟩ := h.ev e he
  exact ⟨by omega, by omega, by have := strI_length e.repo; omega, by have := strI_length e.tag; omega⟩⟩
end Go.Proofs.YtmeiadgpglpelaaGreat
/- Letters: what is encoded is decoded as it was (LetterBack). Conditions: none. -/
namespace Go.Proofs.YtmeiadgpglpelaaGreat
open Go Go.Eng Go.RowKit

theorem decT_id (B : List Int) : (decT B).1.id.length = 32 := by
  by_cases h1 : 262144 < B.length
  · unfold decT; rw [if_pos h1]; rfl
  rw [decT_eq (by omega)]
  split
  · rfl
  · cases (lEvs (lAll B r0).1).2 with
    | some a => rfl
    | none =>
      simp only [decTm]
      split
      · rfl
      · have a0 : (r0 : RS).e = 0 → (r0 : RS).at' ≤ B.length := fun _ => Nat.zero_le _
        have a5 := go_at go_num (go_at (go_vec 16) (go_at go_num (go_at go_num (go_at go_num a0))))
        have a6 := go_at go_dot (go_at (go_evs (rNum B (rVec B 16 (rNum B (rNum B (rNum B r0).2).2).2).2).1.toNat) a5)
        exact rID_len a6
theorem SC.gather {P : Program} {f : Nat} {args : List Value} {b : World} {F : List SP} {R R' : Value → List SP → Prop} (h : SC P f args b F R) (hr : ∀ v F' w, R v F' → Sat b F' w → ∃ G, R' v G ∧ Ent F' G) : SC P f args b F R' := fun w H => (h w H).mono fun _ _ ⟨v, F', h1, h2, h3⟩ => by
  obtain ⟨G, h4, h5⟩ := hr v F' _ h2 h3
  exact ⟨v, G, h1, h4, h3.ent h5⟩
section
variable {b : World} {F : List SP}
/-- As DecodeT_S; the letter's memory as one piece. -/
theorem DecodeL_S {B : List Int} {vb : Value} (hv : ∀ w, Sat b F w → VL (Value.int .u8) w vb B) (hB : B.length ≤ 1000000) (hb : byteOk B) :
    SC Tryz.prog n_letter_Decode [vb] b F (fun u F' => ∃ y : Lt, (nL y = (decT B).1 ∧ (ltC y).length = 40 ∧ ∀ u ∈ ltC y, u.oneCell' = true) ∧ u = .tuple ⟨[ltV y, ftV (decT B).2]⟩ ∧ F' = lP y :: F) := by
  refine Go.Proofs.YtmeiadgpglpelaaGreat.SC.gather (DecodeT_S hv hB hb) ?_
  rintro _ _ w ⟨y, hy, rfl, rfl⟩ H
  have h32 : y.id.length = 32 := (congrArg (fun z : Lt => z.id.length) hy).trans (decT_id B)
  obtain ⟨q1, q2, q3⟩ := lr_form (lt_rows (y := y) (j1 := 0) (j2 := 1) (j3 := 2) (j4 := 3) rfl rfl rfl rfl w H)
  exact ⟨lP y :: F, ⟨y, ⟨hy, ltC_len h32, ltC_one q1 q2 q3⟩, rfl, rfl⟩, ent_close (G := ltP y)⟩
end
set_option maxRecDepth 20000 in
set_option maxHeartbeats 8000000 in
theorem walk_LetterBack {W : World} {v : Value} {l : Lt} {n width cut : Int} (hA : LA W v l) : Calls Tryz.prog n_entrepotlaw25_LetterBack #[v, .int .i64 n, .int .i64 width, .int .i64 cut] W (fun e w' => e = .returned (.bool true) ∧ Ext W w') := by
  obtain ⟨rfl, hw, hlr0⟩ := id hA
  refine law_of (args := [ltV l, .int .i64 n, .int .i64 width, .int .i64 cut]) ?_
  have hlr : ∀ {F : List SP} {k : Nat}, nth F k = some (Is W) → ∀ w, Sat W F w → LR w l := fun hk w H => hlr0.ext (H.is hk)
  have h32 := hw.id.1
  have xl := ltC_len h32
  have he32 : ∀ e ∈ l.evs, e.id.length = 32 := fun e he => (hw.evs e he).l32
  refine enterS F_entrepotlaw25_LetterBack rfl rfl rfl ?_
  (refine sw_seq (sw_region ?_))
  refine so_box rfl rfl rfl rfl rfl fun g4 => ?_
  (refine so_1 rfl ?_; refine so_nil (sn_then ?_); refine sw_seq (sw_region ?_))
  refine so_callE rfl rfl rfl (Known25_S) ?_
  (refine so_1 rfl ?_; refine so_nil (sn_then ?_); (iterate 2 refine sw_seq ?_); refine sw_region ?_)
  refine so_ldA 0 rfl rfl rfl rfl rfl rfl (segO_all (by rw [xl]; rfl)) rfl ?_
  refine so_call rfl rfl rfl (LongLetter_S h32 he32 (hlr (k := 1) rfl)) ?_
  rintro _ _ ⟨q, hq, rfl, rfl⟩
  cases q with
  | true =>
    ((iterate 7 refine so_1 rfl ?_); refine so_nil (sn_then ?_); refine sw_cond_t rfl ?_; refine sw_seq (sw_region ?_); (iterate 2 refine so_1 rfl ?_); refine so_nil (sn_then ?_); refine sw_ret ?_; refine sn_then_ret ?_)
    refine sn_ret rfl (.tmp rfl .nil) (ent_keep 1 [] rfl rfl) ?_
    exact ⟨rfl, rfl⟩
  | false =>
  have hl := hA.long (hq rfl)
  (refine so_1 rfl ?_)
  refine so_ldA 0 rfl rfl rfl rfl rfl rfl (segO_all (by rw [xl]; rfl)) rfl ?_
  ((iterate 2 refine so_1 rfl ?_))
  refine so_callE rfl rfl rfl (CheckT_S (hlr (k := 1) rfl) hw hl.ev hl.seen hl.bs) ?_
  ((iterate 2 refine so_1 rfl ?_); refine so_nil (sn_then ?_))
  refine sw_ifn rfl (fun hc => ?_) (fun hc => ?_)
  · (refine sw_seq (sw_region ?_); (iterate 2 refine so_1 rfl ?_); refine so_nil (sn_then ?_); refine sw_ret ?_; refine sn_then_ret ?_)
    refine sn_ret rfl (.tmp rfl .nil) (ent_keep 1 [] rfl rfl) ?_
    exact ⟨rfl, rfl⟩
  obtain ⟨he0, hB, hdec, hpos⟩ := chkT_enc hc (fun e he => evN_of (hw.evs e he)) h32
  have hbyte := encT_bytes hw
  have hlen := (encT_ok he0).2.2.2.1
  (refine sw_skip ?_; refine sn_then ?_; refine sw_seq (sw_region ?_))
  refine so_ldA 0 rfl rfl rfl rfl rfl rfl (segO_all (by rw [xl]; rfl)) rfl ?_
  refine so_call rfl rfl rfl (EncodeT_S (hlr (k := 1) rfl) hw hl.ev hl.seen hl.bs) ?_
  rintro _ _ ⟨rb, rfl, rfl⟩
  rw [he0]
  rw [hB] at hbyte ⊢
  have hd0 : (decT (ltB l)).2.1 = 0 := by rw [hdec]
  have hcu := fun (k : Nat) (hk : k < (ltB l).length) => decT_cut hd0 hk
  have hmo := decT_more hd0 0
  clear hd0
  generalize ltB l = B at hdec hbyte hlen hpos hcu hmo ⊢
  refine so_fact (fun w H => (H.oat (k := 0) rfl).form) ?_
  rintro ⟨Ab, cb, rfl, hb1, hb2, hb3⟩
  ((iterate 5 refine so_1 rfl ?_); refine so_nil (sn_then ?_); refine sw_seq (sw_region ?_); refine so_1 rfl ?_)
  refine so_call rfl rfl rfl (DecodeL_S (vlB (l := B) (k := 0) rfl) (by omega) hbyte) ?_
  rintro _ _ ⟨z, ⟨hz, zl, z1⟩, rfl, rfl⟩
  rw [hdec] at hz ⊢
  dsimp only at hz ⊢
  have z32 : z.id.length = 32 := by rw [nL_id hz]; exact h32
  ((iterate 3 refine so_1 rfl ?_))
  refine so_new rfl rfl rfl rfl rfl fun g12 => ?_
  refine so_new rfl rfl rfl rfl rfl fun g13 => ?_
  refine so_stW 1 rfl rfl rfl rfl rfl rfl rfl zl z1 (by rw [zl]; rfl) ?_
  (refine so_s1 0 rfl rfl rfl rfl ?_; refine so_nil (sn_then ?_); (iterate 2 refine sw_seq ?_); refine sw_region ?_; (iterate 3 refine so_1 rfl ?_); refine so_l 0 rfl rfl rfl ?_; refine so_1 rfl ?_)
  refine so_pu rfl (pu_neA rfl rfl (eq_fault 0 0 0 0)) rfl ?_
  ((iterate 2 refine so_1 rfl ?_))
  refine so_ldA 1 rfl rfl rfl rfl rfl rfl (segO_all (by rw [zl]; rfl)) rfl ?_
  refine so_ldA 4 rfl rfl rfl rfl rfl rfl (segO_all (by rw [xl]; rfl)) rfl ?_
  refine so_callE rfl rfl rfl (SameLetter_S hz (lP_lr (y := z) (k := 2) rfl) (hlr (k := 5) rfl) z32 (ev_nE (P := fun e => e.id.length = 32 ∧ len32 e.refs ∧ e.refs.length ≤ 1000000) same_nE (nL_evs hz) (fun e he => ⟨he32 e he, (hw.evs e he).r32, (hl.ev e he).rn⟩))) ?_
  ((iterate 7 refine so_1 rfl ?_); refine so_nil (sn_then ?_))
  refine sw_if rfl (fun hx => absurd hx (by omega)) (fun _ => ?_)
  (refine sw_skip ?_; refine sn_then ?_; refine sw_seq (sw_region ?_); (iterate 4 refine so_1 rfl ?_))
  obtain ⟨k, hk, hkl⟩ : ∃ k : Nat, (if (B.length : Int) ≤ 0 then 0 else cut % (B.length : Int)) = (k : Int) ∧ k < B.length := by
    rw [if_neg (by omega)]
    have h1 := Int.emod_nonneg cut (b := (B.length : Int)) (by omega)
    have h2 := Int.emod_lt_of_pos cut (b := (B.length : Int)) (by omega)
    exact ⟨(cut % (B.length : Int)).toNat, by omega, by omega⟩
  have hck := hcu k hkl
  refine so_call rfl rfl rfl (Pick_S (n := B.length) ⟨by omega, by omega⟩) ?_
  rintro _ _ ⟨rfl, rfl⟩
  rw [hk]
  (refine so_2 rfl (by omega) ?_)
  refine so_know 63 (.slice Ab k cb) rfl (by rw [Int.toNat_natCast]) ?_
  refine so_call rfl rfl rfl (DecodeL_S (B := B.take k) (fun w H => vl_take (vlB (l := B) (v := .slice Ab B.length cb) (k := 3) rfl w H) (by omega)) (by simp; omega) (hbyte.take k)) ?_
  rintro _ _ ⟨u, ⟨hu, ul, u1⟩, rfl, rfl⟩
  ((iterate 3 refine so_1 rfl ?_))
  refine so_new rfl rfl rfl rfl rfl fun g14 => ?_
  refine so_new rfl rfl rfl rfl rfl fun g15 => ?_
  refine so_stW 1 rfl rfl rfl rfl rfl rfl rfl ul u1 (by rw [ul]; rfl) ?_
  (refine so_s1 0 rfl rfl rfl rfl ?_; refine so_nil (sn_then ?_); refine sw_seq (sw_region ?_); refine so_1 rfl ?_)
  refine so_call rfl rfl rfl (SC.ofMade fun w H => CopyBytes_spec (vlB (l := B) (v := .slice Ab B.length cb) (k := 6) rfl w H) (by omega)) ?_
  rintro rc _ rfl
  refine so_lit [.int .u8 0] rfl rfl rfl rfl rfl rfl rfl rfl rfl fun gl => ?_
  refine so_append 1 rfl rfl rfl rfl rfl rfl rfl rfl rfl (vl1 (l := [0]) (k := 0) rfl (by decide) rfl) (u8s_one [0]) (by simp; omega) (fun _ => rfl) fun rd => ?_
  refine so_ent (ent_rB (l := B ++ [0]) 1 rfl (by simp) (by simp) rfl) ?_
  refine so_call rfl rfl rfl (DecodeL_S (vlB (l := B ++ [0]) (k := 1) rfl) (by simp; omega) (hbyte.app (.cons (by decide) .nil))) ?_
  rintro _ _ ⟨t, ⟨ht, tl, t1⟩, rfl, rfl⟩
  rw [hmo]
  ((iterate 3 refine so_1 rfl ?_))
  refine so_new rfl rfl rfl rfl rfl fun g16 => ?_
  refine so_new rfl rfl rfl rfl rfl fun g17 => ?_
  refine so_stW 1 rfl rfl rfl rfl rfl rfl rfl tl t1 (by rw [tl]; rfl) ?_
  (refine so_s1 0 rfl rfl rfl rfl ?_; refine so_nil (sn_then ?_); refine sw_seq (sw_region ?_); (iterate 3 refine so_1 rfl ?_); refine so_l 5 rfl rfl rfl ?_; (iterate 3 refine so_1 rfl ?_))
  refine so_know 81 (.bool true) rfl (by simp [hck]) ?_
  (refine so_l 0 rfl rfl rfl ?_; (iterate 3 refine so_1 rfl ?_))
  refine so_pu rfl (pu_eqA rfl rfl (eq_fault 4 (B.length : Int) 4 (B.length : Int))) rfl ?_
  refine so_know 86 (.bool true) rfl (by simp) ?_
  ((iterate 2 refine so_1 rfl ?_); refine so_nil (sn_then ?_); refine sw_ret ?_)
  refine sn_ret rfl (.tmp rfl .nil) (ent_keep 13 [] rfl rfl) ?_
  exact ⟨rfl, rfl⟩
end Go.Proofs.YtmeiadgpglpelaaGreat
/- Letters: notes, ships and gives that may be (LetterFits). Conditions: none. -/
namespace Go.Proofs.YtmeiadgpglpelaaGreat
open Go Go.Eng Go.RowKit

theorem headT_of {x : Lt} {n : Int} (h1 : 1 ≤ x.from' ∧ x.from' ≤ n) (h2 : 1 ≤ x.to' ∧ x.to' ≤ n) (h3 : x.from' ≠ x.to') (h4 : (x.seen.length : Int) = n) (h5 : ∀ y ∈ x.seen, 0 ≤ y ∧ y ≤ 1048576) : headT x n = true := by
  unfold headT
  simp only [Bool.and_eq_true, decide_eq_true_eq, List.all_eq_true, okNum]
  exact ⟨⟨h1.1, h1.2, h2.1, h2.2, h3, h4⟩, h5⟩
/-- The Ship of a Need that may be. -/
theorem ship_fits {l : Lt} {n w : Int} {bs : List Int} (h : chkT l n w = 0) (hk : l.kind = 4) : chkT (shipL l bs l.seen) n w = if 4096 < bs.length then 4 else if cutR (sumM bs) w = l.id then 0 else 8 := by
  have o := chkT_ok h
  have n1 := o.n1; have w1 := o.w1
  have hd : dotT (shipL l bs l.seen) n w = 0 := (o.need hk).2.2
  rw [chkT_ship (x := shipL l bs l.seen) (by omega) rfl (headT_of o.to' o.from' (Ne.symm o.ft) o.sl o.s) rfl, hd, if_neg (by simp)]
  rfl
/-- The Note of an event that may be. -/
theorem note_fits {l : Lt} {n w t : Int} {e : Ev} (h : chkT l n w = 0) (he : e ∈ l.evs) (ht : 1 ≤ t ∧ t ≤ n) : chkT (noteL e t l.seen) n w = if t = e.r then 2 else 0 := by
  have o := chkT_ok h
  have n1 := o.n1; have w1 := o.w1
  have hc := o.ev e he
  have ho := chk_ok hc
  by_cases h1 : t = e.r
  · rw [if_pos h1]
    unfold chkT
    rw [if_neg (by omega), if_pos (by unfold headT; rw [decide_eq_false (by show ¬ (1 ≤ e.r ∧ e.r ≤ n ∧ 1 ≤ t ∧ t ≤ n ∧ e.r ≠ t ∧ _); omega)]; rfl)]
  · rw [if_neg h1]
    unfold chkT
    rw [if_neg (by omega), if_neg (by rw [headT_of (x := noteL e t l.seen) ho.r ht (fun h => h1 h.symm) o.sl o.s]; simp), if_neg (by show ¬ ((1 : Int) < 1 ∨ (5 : Int) < 1); decide)]
    unfold kindT
    rw [if_pos (show (noteL e t l.seen).kind = 1 from rfl), if_neg (by
      have : bareT (noteL e t l.seen) = true := rfl
      rw [this]; simp [noteL])]
    exact hc
set_option maxRecDepth 20000 in
set_option maxHeartbeats 16000000 in
theorem walk_LetterFits {W : World} {v vb : Value} {l : Lt} {n width to' : Int} {bs : List Int} (hA : LA W v l) (hVb : VL (Value.int .u8) W vb bs ∧ byteW bs) : Calls Tryz.prog n_entrepotlaw25_LetterFits #[v, .int .i64 n, .int .i64 width, .int .i64 to', vb] W (fun e w' => e = .returned (.bool true) ∧ Ext W w') := by
  obtain ⟨rfl, hw, hlr0⟩ := id hA
  obtain ⟨hV, hbw⟩ := hVb
  obtain ⟨Av, cv, rfl, _, _, _, _⟩ := hV.form
  refine law_of (args := [ltV l, .int .i64 n, .int .i64 width, .int .i64 to', .slice Av bs.length cv]) ?_
  have hlr : ∀ {F : List SP} {k : Nat}, nth F k = some (Is W) → ∀ w, Sat W F w → LR w l := fun hk w H => hlr0.ext (H.is hk)
  have hvb : ∀ {F : List SP} {k : Nat}, nth F k = some (Is W) → ∀ w, Sat W F w → VL (Value.int .u8) w (.slice Av bs.length cv) bs := fun hk w H => hV.ext (H.is hk)
  have h32 := hw.id.1
  have xl := ltC_len h32
  have he32 : ∀ e ∈ l.evs, e.id.length = 32 := fun e he => (hw.evs e he).l32
  obtain ⟨Ae, ce, hxv, _, _, _, k4, _⟩ := sl_form hlr0.ev.sl
  obtain ⟨o1, o2, o3⟩ := lr_form hlr0
  have x1 := ltC_one o1 o2 o3
  refine enterS F_entrepotlaw25_LetterFits rfl rfl rfl ?_
  (refine sw_seq (sw_region ?_))
  refine so_box rfl rfl rfl rfl rfl fun g5 => ?_
  (refine so_1 rfl ?_; refine so_nil (sn_then ?_); refine sw_seq (sw_region ?_))
  refine so_callE rfl rfl rfl (Known25_S) ?_
  (refine so_1 rfl ?_; refine so_nil (sn_then ?_); (iterate 2 refine sw_seq ?_); refine sw_region ?_)
  refine so_ldA 0 rfl rfl rfl rfl rfl rfl (segO_all (by rw [xl]; rfl)) rfl ?_
  refine so_call rfl rfl rfl (LongLetter_S h32 he32 (hlr (k := 1) rfl)) ?_
  rintro _ _ ⟨q, hq, rfl, rfl⟩
  cases q with
  | true =>
    ((iterate 12 refine so_1 rfl ?_); refine so_nil (sn_then ?_); refine sw_cond_t rfl ?_; refine sw_seq (sw_region ?_); (iterate 2 refine so_1 rfl ?_); refine so_nil (sn_then ?_); refine sw_ret ?_; refine sn_then_ret ?_)
    refine sn_ret rfl (.tmp rfl .nil) (ent_keep 1 [] rfl rfl) ?_
    exact ⟨rfl, rfl⟩
  | false =>
  have hl := hA.long (hq rfl)
  ((iterate 6 refine so_1 rfl ?_))
  refine so_if 26 rfl (fun hb => ?_) (fun hb => ?_)
  · ((iterate 6 refine so_1 rfl ?_); refine so_nil (sn_then ?_); refine sw_cond_t rfl ?_; refine sw_seq (sw_region ?_); (iterate 2 refine so_1 rfl ?_); refine so_nil (sn_then ?_); refine sw_ret ?_; refine sn_then_ret ?_)
    refine sn_ret rfl (.tmp rfl .nil) (ent_keep 1 [] rfl rfl) ?_
    exact ⟨rfl, rfl⟩
  skip
  refine so_ldA 0 rfl rfl rfl rfl rfl rfl (segO_all (by rw [xl]; rfl)) rfl ?_
  ((iterate 2 refine so_1 rfl ?_))
  refine so_callE rfl rfl rfl (CheckT_S (hlr (k := 1) rfl) hw hl.ev hl.seen hl.bs) ?_
  ((iterate 2 refine so_1 rfl ?_); refine so_nil (sn_then ?_))
  refine sw_ifn rfl (fun hc => ?_) (fun hc => ?_)
  · (refine sw_seq (sw_region ?_); (iterate 2 refine so_1 rfl ?_); refine so_nil (sn_then ?_); refine sw_ret ?_; refine sn_then_ret ?_)
    refine sn_ret rfl (.tmp rfl .nil) (ent_keep 1 [] rfl rfl) ?_
    exact ⟨rfl, rfl⟩
  have o := chkT_ok hc
  have n1 := o.n1; have w1 := o.w1
  obtain ⟨t, ht⟩ : ∃ t : Int, (if n ≤ 0 then 0 else to' % n) = t := ⟨_, rfl⟩
  have htb : 0 ≤ t ∧ t < n := by
    rw [← ht, if_neg (by omega)]
    exact ⟨Int.emod_nonneg _ (by omega), Int.emod_lt_of_pos _ (by omega)⟩
  (refine sw_skip ?_; refine sn_then ?_; refine sw_seq (sw_region ?_); (iterate 2 refine so_1 rfl ?_))
  refine so_call rfl rfl rfl (Pick_S (n := n) ⟨by omega, by omega⟩) ?_
  rintro _ _ ⟨rfl, rfl⟩
  rw [ht]
  (refine so_2 rfl (by (unfold I64; omega)) ?_; refine so_1 rfl ?_; refine so_nil (sn_then ?_); (iterate 2 refine sw_seq ?_); refine sw_region ?_; refine so_1 rfl ?_; refine so_l 0 rfl rfl rfl ?_; refine so_1 rfl ?_; refine so_nil (sn_then ?_))
  refine sw_if rfl (fun hk => ?_) (fun hk => ?_)
  · have hsf := ship_fits (bs := bs) hc hk
    have hsw : LW (shipL l bs l.seen) := ⟨⟨by show _ ≤ (5 : Int); decide, by show (5 : Int) ≤ _; decide⟩, hw.to', hw.from', hw.seen, fun e he => (by cases he), hw.dot, hw.id, hbw⟩
    have hsl : LtL (shipL l bs l.seen) := ⟨hl.seen, by show bs.length ≤ _; omega, fun e he => (by cases he)⟩
    have hcl := cutR_len (sumM bs) width (sumM_len bs)
    have hce : cutE width = 0 := by unfold cutE; rw [if_neg (by omega)]
    (refine sw_seq (sw_region ?_); (iterate 2 refine so_1 rfl ?_))
    refine so_call rfl rfl rfl (Of_S (xs := bs) (by omega) (hvb (k := 1) rfl)) ?_
    rintro _ _ ⟨rfl, rfl⟩
    rw [hce]
    ((iterate 3 refine so_1 rfl ?_))
    refine so_new rfl rfl rfl rfl rfl fun g12 => ?_
    refine so_stW 0 rfl rfl rfl rfl rfl rfl rfl (by rw [u8s_len, hcl]; rfl) (u8s_one _) (by simp [hcl]) ?_
    (refine so_1 rfl ?_; refine so_nil (sn_then ?_); refine sw_seq (sw_region ?_); (iterate 3 refine so_1 rfl ?_))
    refine so_ldA 0 rfl rfl rfl rfl rfl rfl (segID hcl) rfl ?_
    (refine so_1 rfl ?_)
    refine so_ldA 1 rfl rfl rfl rfl rfl rfl (ltC_id h32) rfl ?_
    refine so_pu rfl (pu_eqI (as00 := cutR (sumM bs) width) (bs := l.id) rfl rfl hcl h32) rfl ?_
    by_cases hid : cutR (sumM bs) width = l.id
    · refine so_know 53 (.bool true) rfl (congrArg Value.bool (decide_eq_true hid)) ?_
      ((iterate 7 refine so_1 rfl ?_); refine so_nil (sn_then ?_); refine sw_seq (sw_region ?_); (iterate 2 refine so_1 rfl ?_))
      refine so_if 58 rfl (fun h4 => ?_) (fun h4 => ?_)
      · skip
        refine so_ldA 1 rfl rfl rfl rfl rfl rfl (segO_all (by rw [xl]; rfl)) rfl ?_
        ((iterate 2 refine so_1 rfl ?_); refine so_l 1 rfl rfl rfl ?_)
        refine so_call rfl rfl rfl (Ship_S (a := l) (bs := bs) (seen := l.seen) h32 (hvb (k := 2) rfl) (by omega) (fun w H => (hlr (k := 2) rfl w H).sv) hl.seen) ?_
        rintro _ _ ⟨y, hy, rfl, rfl⟩
        refine so_ent (ent_close (G := ltP y)) ?_
        ((iterate 2 refine so_1 rfl ?_))
        refine so_callE rfl rfl rfl (CheckT_S (lP_lr (y := y) (k := 0) rfl) (lw_nL hy hsw) (ltl_nL hy hsl).ev (ltl_nL hy hsl).seen (ltl_nL hy hsl).bs) ?_
        rw [chkT_nL hy, hsf, if_neg (by omega), if_pos hid]
        ((iterate 5 refine so_1 rfl ?_); refine so_nil (sn_then ?_); refine sw_ret ?_; refine sn_then_ret ?_)
        refine sn_ret rfl (.tmp rfl .nil) (ent_keep 3 [] rfl rfl) ?_
        exact ⟨congrArg Value.bool (by rw [decide_eq_true h4]; rfl), rfl⟩
      · skip
        refine so_ldA 1 rfl rfl rfl rfl rfl rfl (segO_all (by rw [xl]; rfl)) rfl ?_
        ((iterate 2 refine so_1 rfl ?_); refine so_l 1 rfl rfl rfl ?_)
        refine so_call rfl rfl rfl (Ship_S (a := l) (bs := bs) (seen := l.seen) h32 (hvb (k := 2) rfl) (by omega) (fun w H => (hlr (k := 2) rfl w H).sv) hl.seen) ?_
        rintro _ _ ⟨y, hy, rfl, rfl⟩
        refine so_ent (ent_close (G := ltP y)) ?_
        ((iterate 2 refine so_1 rfl ?_))
        refine so_callE rfl rfl rfl (CheckT_S (lP_lr (y := y) (k := 0) rfl) (lw_nL hy hsw) (ltl_nL hy hsl).ev (ltl_nL hy hsl).seen (ltl_nL hy hsl).bs) ?_
        rw [chkT_nL hy, hsf, if_pos (by omega)]
        ((iterate 5 refine so_1 rfl ?_); refine so_nil (sn_then ?_); refine sw_ret ?_; refine sn_then_ret ?_)
        refine sn_ret rfl (.tmp rfl .nil) (ent_keep 3 [] rfl rfl) ?_
        exact ⟨congrArg Value.bool (by rw [decide_eq_false h4]; rfl), rfl⟩
    · refine so_know 53 (.bool false) rfl (congrArg Value.bool (decide_eq_false hid)) ?_
      by_cases h4 : 4096 < bs.length
      · ((iterate 7 refine so_1 rfl ?_); refine so_nil (sn_then ?_); refine sw_seq (sw_region ?_); (iterate 2 refine so_1 rfl ?_))
        refine so_ldA 1 rfl rfl rfl rfl rfl rfl (segO_all (by rw [xl]; rfl)) rfl ?_
        ((iterate 2 refine so_1 rfl ?_); refine so_l 1 rfl rfl rfl ?_)
        refine so_call rfl rfl rfl (Ship_S (a := l) (bs := bs) (seen := l.seen) h32 (hvb (k := 2) rfl) (by omega) (fun w H => (hlr (k := 2) rfl w H).sv) hl.seen) ?_
        rintro _ _ ⟨y, hy, rfl, rfl⟩
        refine so_ent (ent_close (G := ltP y)) ?_
        ((iterate 2 refine so_1 rfl ?_))
        refine so_callE rfl rfl rfl (CheckT_S (lP_lr (y := y) (k := 0) rfl) (lw_nL hy hsw) (ltl_nL hy hsl).ev (ltl_nL hy hsl).seen (ltl_nL hy hsl).bs) ?_
        rw [chkT_nL hy, hsf, if_pos h4]
        ((iterate 5 refine so_1 rfl ?_); refine so_nil (sn_then ?_); refine sw_ret ?_; refine sn_then_ret ?_)
        refine sn_ret rfl (.tmp rfl .nil) (ent_keep 3 [] rfl rfl) ?_
        exact ⟨rfl, rfl⟩
      · ((iterate 7 refine so_1 rfl ?_); refine so_nil (sn_then ?_); refine sw_seq (sw_region ?_); (iterate 2 refine so_1 rfl ?_))
        refine so_ldA 1 rfl rfl rfl rfl rfl rfl (segO_all (by rw [xl]; rfl)) rfl ?_
        ((iterate 2 refine so_1 rfl ?_); refine so_l 1 rfl rfl rfl ?_)
        refine so_call rfl rfl rfl (Ship_S (a := l) (bs := bs) (seen := l.seen) h32 (hvb (k := 2) rfl) (by omega) (fun w H => (hlr (k := 2) rfl w H).sv) hl.seen) ?_
        rintro _ _ ⟨y, hy, rfl, rfl⟩
        refine so_ent (ent_close (G := ltP y)) ?_
        ((iterate 2 refine so_1 rfl ?_))
        refine so_callE rfl rfl rfl (CheckT_S (lP_lr (y := y) (k := 0) rfl) (lw_nL hy hsw) (ltl_nL hy hsl).ev (ltl_nL hy hsl).seen (ltl_nL hy hsl).bs) ?_
        rw [chkT_nL hy, hsf, if_neg h4, if_neg hid]
        ((iterate 5 refine so_1 rfl ?_); refine so_nil (sn_then ?_); refine sw_ret ?_; refine sn_then_ret ?_)
        refine sn_ret rfl (.tmp rfl .nil) (ent_keep 3 [] rfl rfl) ?_
        exact ⟨rfl, rfl⟩
  (refine sw_skip ?_; refine sn_then ?_; (iterate 2 refine sw_seq ?_); refine sw_region ?_; refine so_1 rfl ?_; refine so_nil (sn_then ?_); refine sw_block ?_)
  refine sw_loop (S := Nat) (fun i => [(1, .int .i64 n), (2, .int .i64 width), (3, .int .i64 (1 + t)), (5, .pointer (some ⟨g5, 0, none⟩)), (11, .bool true), (15, .int .i64 (i : Int))]) (fun _ => pt g5 t_api_Letter (ltC l) :: [Is W]) (fun i => i ≤ l.evs.length) (fun i => l.evs.length - i) 0 ⟨rfl, rfl, rfl, rfl, rfl, rfl, trivial⟩ (Ent.refl _) (Nat.zero_le _) ?_
  intro i hi
  ((iterate 2 refine sw_seq ?_); refine sw_region ?_; (iterate 2 refine so_1 rfl ?_); refine so_l 0 rfl rfl rfl ?_)
  rw [hxv]
  ((iterate 2 refine so_1 rfl ?_); refine so_nil (sn_then ?_))
  refine sw_if rfl (fun h5 => ?_) (fun h5 => ?_)
  rotate_left
  · (refine sw_exit ?_; refine sn_then_exit ?_; refine sn_loop_exit ?_; refine sn_block_exit ?_; refine sn_then ?_; refine sw_seq (sw_region ?_); (iterate 2 refine so_1 rfl ?_); refine so_nil (sn_then ?_); refine sw_ret ?_)
    refine sn_ret rfl (.tmp rfl .nil) (ent_keep 1 [] rfl rfl) ?_
    exact ⟨rfl, rfl⟩
  have h5' : i < l.evs.length := by omega
  obtain ⟨gg, oo, rfl⟩ := k4 (by omega)
  have hmem := List.getElem_mem h5'
  have hcl : ∀ {F : List SP} {k : Nat}, nth F k = some (Is W) → ∀ w, Sat W F w → ∀ (i : Nat) (hi : i < l.evs.length), ∀ j, j < 39 → w.cell? ⟨gg, oo + i * 39 + j, none⟩ = (evC l.evs[i])[j]? := fun hk w H i hi j hj => ev_cell (by have := (hlr hk w H).ev; rw [hxv] at this; exact this) he32 hi hj
  have hc0 : ∀ {F : List SP} {k : Nat}, nth F k = some (Is W) → ∀ w, Sat W F w → ∀ j, j < 39 → w.cell? ⟨gg, oo + i * 39 + j, none⟩ = (evC l.evs[i])[j]? := fun hk w H => hcl hk w H i h5'
  have her : ∀ {F : List SP} {k : Nat}, nth F k = some (Is W) → ∀ w, Sat W F w → ER w l.evs[i] := fun hk w H => (hlr hk w H).ev.er _ hmem
  have hce := o.ev _ hmem
  have hform := er_form (hlr0.ev.er _ hmem)
  have hnf := note_fits (t := 1 + t) hc hmem (by omega)
  have hew := hw.evs _ hmem
  have hel := hl.ev _ hmem
  have hprev : ∀ j (hj : j < l.evs.length), i = j + 1 → evLt l.evs[j] l.evs[i] = true := fun j hj hij => by subst hij; exact o.lt j h5'
  generalize l.evs[i] = e at *
  have el := evC_len hew.l32
  obtain ⟨e1, e2⟩ := hform
  have ee := evC_one e1 e2
  (refine sw_skip ?_; refine sn_then ?_; refine sw_seq ?_; refine sw_block ?_; refine sw_seq (sw_region ?_); refine so_1 rfl ?_; refine so_l 0 rfl rfl rfl ?_; refine so_1 rfl ?_)
  rw [hxv]
  (refine so_2 rfl (by omega) ?_)
  refine so_rd rfl (fun w H => ex_loadN (cs := evC e) rfl rfl rfl el (fun j hj => by rw [el] at hj; rw [mulz_eq, Int.toNat_natCast]; exact hc0 (k := 1) rfl w H j hj)) rfl ?_
  refine so_new rfl rfl rfl rfl rfl fun g16 => ?_
  refine so_stW 0 rfl rfl rfl rfl rfl rfl rfl el ee (by rw [el]; rfl) ?_
  refine so_nil (sn_then ?_)
  (refine sw_seq (sw_region ?_))
  (refine so_1 rfl ?_)
  refine so_nil (sn_then ?_)
  refine sw_mid (S := Unit) (fun _ => [(1, .int .i64 n), (2, .int .i64 width), (3, .int .i64 (1 + t)), (5, .pointer (some ⟨g5, 0, none⟩)), (11, .bool true), (15, .int .i64 (i : Int)), (16, .pointer (some ⟨g16, 0, none⟩)), (17, .int .i64 (if 1 + t = e.r then 2 else 0))]) (fun _ => pt g16 t_api_Event (evC e) :: pt g5 t_api_Letter (ltC l) :: [Is W]) (fun _ => True) ?_ ?_
  · (refine sw_seq (sw_region ?_); (iterate 3 refine so_1 rfl ?_); refine so_l 0 rfl rfl rfl ?_; refine so_1 rfl ?_; refine so_nil (sn_then ?_))
    refine sw_if rfl (fun h6 => ?_) (fun h6 => ?_)
    · rw [if_pos h6]
      (refine sw_region ?_; refine so_1 rfl ?_; refine so_nil ?_)
      exact sn_mid () ⟨rfl, rfl, rfl, rfl, rfl, rfl, rfl, rfl, trivial⟩ (Ent.refl _) trivial
    · rw [if_neg h6]
      (refine sw_skip ?_)
      exact sn_mid () ⟨rfl, rfl, rfl, rfl, rfl, rfl, rfl, rfl, trivial⟩ (Ent.refl _) trivial
  rintro ⟨⟩ _
  (refine sw_seq ?_)
  refine sw_draw flo (pt g16 t_api_Event (evC e) :: pt g5 t_api_Letter (ltC l) :: [Is W]) (by decide +kernel) (Ent.refl _) ?_
  skip
  refine sd_ldA 0 rfl rfl rfl rfl rfl rfl (segO_all (by rw [el]; rfl)) rfl rfl ?_
  ((iterate 2 refine sd_1 rfl (.inl rfl) ?_))
  refine sd_callE rfl rfl rfl rfl ((Check_S (her (k := 2) rfl) hew hel)) (Ent.refl _) ?_
  rw [hce]
  ((iterate 2 refine sd_1 rfl (.inl rfl) ?_))
  refine sd_ldA 0 rfl rfl rfl rfl rfl rfl (segO_all (by rw [el]; rfl)) rfl rfl ?_
  ((iterate 2 refine sd_1 rfl (.inl rfl) ?_); refine sd_l 1 rfl rfl rfl rfl ?_)
  refine sd_call rfl rfl rfl rfl (Note_S (seen := l.seen) hew.l32 (her (k := 2) rfl) hel.dn hel.rn (fun w H => (hlr (k := 2) rfl w H).sv) hl.seen) ?_
  rintro _ _ ⟨y, hy, rfl, rfl⟩
  refine ⟨ent_keep 4 [] rfl rfl, ?_⟩
  have hnw : LW (noteL e (1 + t) l.seen) := ⟨⟨by show _ ≤ (1 : Int); decide, by show (1 : Int) ≤ _; decide⟩, i64_of hew.dot.1, ⟨by show _ ≤ 1 + t; omega, by show 1 + t ≤ _; omega⟩, hw.seen, fun f hf => (by rw [List.mem_singleton.1 hf]; exact hew), ⟨by show (Lit.int .i64 0).wf = true; decide, by show (Lit.int .i64 0).wf = true; decide⟩, idOk_zero, fun z hz => (by cases hz)⟩
  have hnl : LtL (noteL e (1 + t) l.seen) := ⟨hl.seen, Nat.zero_le _, fun f hf => (by rw [List.mem_singleton.1 hf]; exact hel)⟩
  ((iterate 2 refine sd_1 rfl (.inl rfl) ?_))
  refine sd_callE rfl rfl rfl rfl ((CheckT_S (lt_rows (y := y) (j1 := 0) (j2 := 1) (j3 := 2) (j4 := 3) rfl rfl rfl rfl) (lw_nL hy hnw) (ltl_nL hy hnl).ev (ltl_nL hy hnl).seen (ltl_nL hy hnl).bs)) (ent_keep 4 [] rfl rfl) ?_
  rw [chkT_nL hy, hnf]
  ((iterate 4 refine sd_1 rfl (.inl rfl) ?_))
  refine sd_know 108 (.bool false) rfl (congrArg Value.bool (by simp)) ?_
  ((iterate 3 refine sd_1 rfl (.inl rfl) ?_))
  refine sd_if 111 rfl (fun h7 => ?_) (fun h7 => ?_)
  · obtain ⟨j, rfl⟩ : ∃ j : Nat, i = j + 1 := ⟨i - 1, by omega⟩
    have hj : j < l.evs.length := by omega
    have hpr := hprev j hj rfl
    have hmj := List.getElem_mem hj
    have hcj : ∀ {F : List SP} {k : Nat}, nth F k = some (Is W) → ∀ w, Sat W F w → ∀ q, q < 39 → w.cell? ⟨gg, oo + j * 39 + q, none⟩ = (evC l.evs[j])[q]? := fun hk w H => hcl hk w H j hj
    have hej : ∀ {F : List SP} {k : Nat}, nth F k = some (Is W) → ∀ w, Sat W F w → ER w l.evs[j] := fun hk w H => (hlr hk w H).ev.er _ hmj
    have hjl := evC_len (hw.evs _ hmj).l32
    generalize l.evs[j] = f at *
    (refine sd_1 rfl (.inl rfl) ?_; refine sd_l 1 rfl rfl rfl rfl ?_; refine sd_1 rfl (.inl rfl) ?_; refine sd_2 rfl rfl (by (unfold I64; omega)) ?_)
    rw [hxv]
    (refine sd_2 rfl rfl (by omega) ?_)
    refine sd_rd rfl (fun w H => ex_loadN (cs := evC f) rfl rfl rfl hjl (fun q hq => by rw [hjl] at hq; rw [mulz_eq, show (((j + 1 : Nat) : Int) - 1).toNat = j by omega]; exact hcj (k := 2) rfl w H q hq)) rfl rfl ?_
    refine sd_ldA 0 rfl rfl rfl rfl rfl rfl (segO_all (by rw [el]; rfl)) rfl rfl ?_
    refine sd_callE rfl rfl rfl rfl ((eLess_S (hej (k := 6) rfl) (her (k := 6) rfl))) (ent_keep 4 [] rfl rfl) ?_
    rw [hpr]
    ((iterate 3 refine sd_1 rfl (.inl rfl) ?_))
    refine sd_nil ?_
    (refine sn_then ?_; refine sw_cond_f rfl ?_; refine sw_skip ?_; refine sn_block ?_; refine sn_then ?_; refine sw_region ?_; refine so_1 rfl ?_; refine so_2 rfl (by (unfold I64; omega)) ?_; refine so_1 rfl ?_; refine so_nil ?_)
    rw [show ((j + 1 : Nat) : Int) + 1 = ((j + 1 + 1 : Nat) : Int) by omega]
    exact sn_round (j + 1 + 1) ⟨rfl, rfl, rfl, rfl, rfl, rfl, trivial⟩ (ent_keep 5 [] rfl rfl) (by omega) (by omega)
  · ((iterate 7 refine sd_1 rfl (.inl rfl) ?_); refine sd_1 rfl (.inr rfl) ?_; (iterate 3 refine sd_1 rfl (.inl rfl) ?_))
    refine sd_nil ?_
    (refine sn_then ?_; refine sw_cond_f rfl ?_; refine sw_skip ?_; refine sn_block ?_; refine sn_then ?_; refine sw_region ?_; refine so_1 rfl ?_; refine so_2 rfl (by (unfold I64; omega)) ?_; refine so_1 rfl ?_; refine so_nil ?_)
    rw [show (i : Int) + 1 = ((i + 1 : Nat) : Int) by omega]
    exact sn_round (i + 1) ⟨rfl, rfl, rfl, rfl, rfl, rfl, trivial⟩ (ent_keep 5 [] rfl rfl) (by omega) (by omega)
end Go.Proofs.YtmeiadgpglpelaaGreat
/- Letters: the document's Note and Ship; letters written over. Conditions: not too much. -/
namespace Go.Proofs.YtmeiadgpglpelaaGreat
open Go Go.Eng Go.RowKit

/-- A made letter's memory as one piece. -/
theorem gatherL {f : Nat} {args : List Value} {b : World} {F : List SP} {z : Lt} (hz : z.id.length = 32) (h : SC Tryz.prog f args b F (fun u F' => ∃ y : Lt, nL y = nL z ∧ u = ltV y ∧ F' = ltP y ++ F)) :
    SC Tryz.prog f args b F (fun u F' => ∃ y : Lt, (nL y = nL z ∧ (ltC y).length = 40 ∧ ∀ u ∈ ltC y, u.oneCell' = true) ∧ u = ltV y ∧ F' = lP y :: F) := by
  refine Go.Proofs.YtmeiadgpglpelaaGreat.SC.gather h ?_
  rintro _ _ w ⟨y, hy, rfl, rfl⟩ H
  have h32 : y.id.length = 32 := by rw [nL_id hy]; exact hz
  obtain ⟨q1, q2, q3⟩ := lr_form (lt_rows (y := y) (j1 := 0) (j2 := 1) (j3 := 2) (j4 := 3) rfl rfl rfl rfl w H)
  exact ⟨lP y :: F, ⟨y, ⟨hy, ltC_len h32, ltC_one q1 q2 q3⟩, rfl, rfl⟩, ent_close (G := ltP y)⟩
section
variable {b : World} {F : List SP}
set_option maxRecDepth 20000 in
set_option maxHeartbeats 2000000 in
theorem rNote_S {e : Ev} {to' : Int} {vs : Value} {seen : List Int} (h32 : e.id.length = 32) (he : ∀ w, Sat b F w → ER w e) (hd : e.deps.length ≤ 1000000) (hr : e.refs.length ≤ 1000000) (hs : ∀ w, Sat b F w → VL (Value.int .i64) w vs seen) (hl : seen.length ≤ 1000000) :
    SC Tryz.prog n_entrepotref25_Note [evV e, .int .i64 to', vs] b F (fun u F' => ∃ y : Lt, nL y = nL (noteL e to' seen) ∧ u = ltV y ∧ F' = ltP y ++ F) := by
  refine enterS F_entrepotref25_Note rfl rfl rfl ?_
  have xl := evC_len h32
  (refine sw_seq (sw_region ?_))
  refine so_box rfl rfl rfl rfl rfl fun g3 => ?_
  refine so_new rfl rfl rfl rfl rfl fun g6 => ?_
  (refine so_nil (sn_then ?_); refine sw_seq ?_)
  refine sw_draw flo (pt g3 t_api_Event (evC e) :: F) (by decide +kernel) (ent_keep 2 [1] rfl rfl) ?_
  ((iterate 2 refine sd_1 rfl (.inl rfl) ?_); refine sd_l 0 rfl rfl rfl rfl ?_; (iterate 2 refine sd_1 rfl (.inl rfl) ?_))
  refine sd_call rfl rfl rfl rfl (CopyInts_S (up hs (ent_keep 2 [] rfl rfl)) (by omega)) ?_
  rintro sv _ rfl
  refine ⟨ent_keep 3 [2] rfl rfl, ?_⟩
  refine sd_fact (fun w H => (H.oat (k := 0) rfl).form) ?_
  rintro ⟨A, c, rfl, _, _, _⟩
  skip
  refine sd_ldA 0 rfl rfl rfl rfl rfl rfl (segO_all (by rw [xl]; rfl)) rfl rfl ?_
  refine sd_call rfl rfl rfl rfl (CopyEvent_S (up he (ent_keep 3 [] rfl rfl)) h32 hd hr) ?_
  rintro _ _ ⟨dv, rv, rfl, rfl⟩
  refine ⟨ent_keep 5 [4] rfl rfl, ?_⟩
  refine sd_fact (fun w H => (H.oat (k := 0) rfl).form) ?_
  rintro ⟨A1, c1, rfl, _, _, _⟩
  refine sd_fact (fun w H => (H.oat (k := 1) rfl).form) ?_
  rintro ⟨A2, c2, rfl, _, _, _⟩
  have hyl := evC_len (e := e.own (.slice A1 e.deps.length c1) (.slice A2 e.refs.length c2)) h32
  have hyP : evF [e.own (.slice A1 e.deps.length c1) (.slice A2 e.refs.length c2)] = [rZ (.slice A1 e.deps.length c1) e.deps, rD (.slice A2 e.refs.length c2) e.refs] := rfl
  have hyn : nE (e.own (.slice A1 e.deps.length c1) (.slice A2 e.refs.length c2)) = nE e := rfl
  generalize e.own (.slice A1 e.deps.length c1) (.slice A2 e.refs.length c2) = y at *
  refine sd_lit1 rfl rfl rfl rfl rfl rfl rfl rfl hyl (by decide) (ent_keep 5 [4] rfl rfl) fun gl => ?_
  (refine sd_1 rfl (.inl rfl) ?_)
  obtain ⟨x, hx⟩ : ∃ x : Lt, x = ⟨1, e.r, to', .slice A seen.length c, seen, .slice (some ⟨gl, 0, none⟩) 1 1, [y], 0, 0, List.replicate 32 0, nS, []⟩ := ⟨_, rfl⟩
  have zl : (ltC x).length = 40 := ltC_len (by rw [hx]; rfl)
  have z1 := ltC_one (x := x) (by rw [hx]; rfl) (by rw [hx]; rfl) (by rw [hx]; rfl)
  refine sd_know 16 (ltV x) rfl (by rw [hx]; rfl) ?_
  refine sd_stW (vs := ltC x) 4 rfl rfl rfl rfl rfl rfl rfl rfl zl z1 (by rw [zl]; rfl) (ent_keep 6 [5] rfl rfl) ?_
  refine sd_nil ?_
  (refine sn_then ?_; refine sw_ret ?_)
  refine sn_ret rfl (.whole 4 rfl rfl rfl rfl (by rw [zl]; rfl) .nil) ((ent_blk_row (t := t_api_Event) (sz := 39) (n := 1) (v := .slice (some ⟨gl, 0, none⟩) 1 1) rfl (by rw [hyl]) (by decide) 0 rfl rfl).trans ((ent_keep 6 [1, 2, 0, 3] rfl rfl).trans ((ent_close (G := [rZ (.slice A1 e.deps.length c1) e.deps, rD (.slice A2 e.refs.length c2) e.refs])).trans ((ent_keep 3 [2, 1, 0] rfl rfl).trans ((ent_row_nil t_uint8 1 rfl).trans (ent_keep 4 [1, 2, 3, 0] rfl rfl)))))) ?_
  refine ⟨x, ?_, rfl, ?_⟩
  · rw [hx]
    show (⟨1, e.r, to', nS, seen, nS, [nE y], 0, 0, List.replicate 32 0, nS, []⟩ : Lt) = _
    rw [hyn]; rfl
  · have e1 : evsC [y] = evC y := by rw [evsC, flC, flC, List.append_nil]
    rw [hx, ltP]
    dsimp only
    rw [hyP, rEs, e1]
    rfl
set_option maxRecDepth 20000 in
set_option maxHeartbeats 2000000 in
theorem rShip_S {a : Lt} {vb vs : Value} {bs seen : List Int} (h32 : a.id.length = 32) (hb : ∀ w, Sat b F w → VL (Value.int .u8) w vb bs) (hbl : bs.length ≤ 1000000) (hs : ∀ w, Sat b F w → VL (Value.int .i64) w vs seen) (hl : seen.length ≤ 1000000) :
    SC Tryz.prog n_entrepotref25_Ship [ltV a, vb, vs] b F (fun u F' => ∃ y : Lt, nL y = nL (shipL a bs seen) ∧ u = ltV y ∧ F' = ltP y ++ F) := by
  refine enterS F_entrepotref25_Ship rfl rfl rfl ?_
  (refine sw_seq (sw_region ?_))
  refine so_box rfl rfl rfl rfl rfl fun g3 => ?_
  refine so_new rfl rfl rfl rfl rfl fun g6 => ?_
  (refine so_nil (sn_then ?_); refine sw_seq ?_)
  refine sw_draw flo (pt g3 t_api_Letter (ltC a) :: F) (by decide +kernel) (ent_keep 2 [1] rfl rfl) ?_
  (refine sd_1 rfl (.inl rfl) ?_; refine sd_l 0 rfl rfl rfl rfl ?_; refine sd_1 rfl (.inl rfl) ?_; refine sd_l 0 rfl rfl rfl rfl ?_; refine sd_1 rfl (.inl rfl) ?_)
  refine sd_call rfl rfl rfl rfl (CopyInts_S (up hs (ent_keep 2 [] rfl rfl)) (by omega)) ?_
  rintro sv _ rfl
  refine ⟨ent_keep 3 [2] rfl rfl, ?_⟩
  refine sd_fact (fun w H => (H.oat (k := 0) rfl).form) ?_
  rintro ⟨A, c, rfl, _, _, _⟩
  (refine sd_1 rfl (.inl rfl) ?_)
  refine sd_ldA 0 rfl rfl rfl rfl rfl rfl ltC_dot rfl rfl ?_
  (refine sd_1 rfl (.inl rfl) ?_)
  refine sd_ldA 0 rfl rfl rfl rfl rfl rfl (ltC_id h32) rfl rfl ?_
  (refine sd_1 rfl (.inl rfl) ?_)
  refine sd_call rfl rfl rfl rfl (SC.ofMade fun w H => CopyBytes_spec (up hb (ent_keep 3 [] rfl rfl) w H) (by omega)) ?_
  rintro bv _ rfl
  refine ⟨ent_keep 4 [3] rfl rfl, ?_⟩
  refine sd_fact (fun w H => (H.oat (k := 0) rfl).form) ?_
  rintro ⟨A2, c2, rfl, _, _, _⟩
  refine sd_B rfl rfl rfl rfl ⟨rfl, rfl, rfl, rfl, rfl, (by show (u8s _).length = _; rw [u8s_len, h32]; rfl), rfl, trivial⟩ ?_
  obtain ⟨x, hx⟩ : ∃ x : Lt, x = ⟨5, a.to', a.from', .slice A seen.length c, seen, nS, [], a.r, a.n, a.id, .slice A2 bs.length c2, bs⟩ := ⟨_, rfl⟩
  have x32 : x.id.length = 32 := by rw [hx]; exact h32
  have zl : (ltC x).length = 40 := ltC_len x32
  have z1 := ltC_one (x := x) (by rw [hx]; rfl) (by rw [hx]; rfl) (by rw [hx]; rfl)
  refine sd_know 19 (ltV x) rfl (by rw [hx]; rfl) ?_
  refine sd_stW (vs := ltC x) 2 rfl rfl rfl rfl rfl rfl rfl rfl zl z1 (by rw [zl]; rfl) (ent_keep 4 [3] rfl rfl) ?_
  refine sd_nil ?_
  (refine sn_then ?_; refine sw_ret ?_)
  refine sn_ret rfl (.whole 2 rfl rfl rfl rfl (by rw [zl]; rfl) .nil) ((ent_keep 4 [0, 1] rfl rfl).trans (((ent_close (G := [])).trans (ent_row_nil t_api_Event 39 rfl)).trans (ent_keep 4 [3, 0, 1, 2] rfl rfl))) ?_
  refine ⟨x, ?_, rfl, ?_⟩
  · rw [hx]; rfl
  · rw [hx]; rfl
/-! ## Letters one behind the other -/
abbrev ltsC (l : List Lt) : List Value := flC ltC l
def ltsF : List Lt → List SP
  | [] => []
  | x :: l => ltP x ++ ltsF l
abbrev rLs (v : Value) (l : List Lt) : SP := row t_api_Letter 40 v l.length (ltsC l)
def ltO : Lt := ⟨-7, 0, 0, nS, [], nS, [], 0, 0, List.replicate 32 0, nS, []⟩
theorem lt_len40 {l : List Lt} (h : ∀ x ∈ l, x.id.length = 32) : ∀ x ∈ l, (ltC x).length = 40 := fun x hx => ltC_len (h x hx)
set_option maxRecDepth 20000 in
set_option maxHeartbeats 4000000 in
theorem OverLetters_S {v : Value} {l : List Lt} (h32 : ∀ x ∈ l, x.id.length = 32) (hl : ∀ x ∈ l, x.seen.length ≤ 1000000 ∧ x.bs.length ≤ 1000000 ∧ x.evs.length ≤ 1000000 ∧ ∀ e ∈ x.evs, (e.id.length = 32 ∧ len32 e.refs) ∧ (e.deps.length ≤ 1000000 ∧ e.refs.length ≤ 1000000)) (hm : l.length ≤ 1000000) :
    SC Tryz.prog n_entrepotkit_OverLetters [v] b (rLs v l :: all (ltsF l) :: F) (fun _ F' => F' = F) := by
  refine enterS F_entrepotkit_OverLetters rfl rfl rfl ?_
  refine sw_fact (fun w H => (H.oat (k := 0) rfl).form) ?_
  rintro ⟨A, c, rfl, k1, k2, k3⟩
  (refine sw_seq (sw_region ?_); refine so_1 rfl ?_; refine so_nil (sn_then ?_); refine sw_block ?_)
  refine sw_loop (S := Nat × List Lt) (fun s => [(0, .slice A l.length c), (2, .int .i64 (s.1 : Int))]) (fun s => row t_api_Letter 40 (.slice A l.length c) l.length (ltsC s.2) :: all (ltsF (s.2.drop s.1)) :: F) (fun s => s.1 ≤ l.length ∧ s.2.drop s.1 = l.drop s.1 ∧ s.2.length = l.length ∧ ∀ x ∈ s.2, x.id.length = 32) (fun s => l.length - s.1) (0, l) ⟨rfl, rfl, trivial⟩ (Ent.refl _) ⟨Nat.zero_le _, rfl, rfl, h32⟩ ?_
  rintro ⟨i, m⟩ ⟨i1, i2, i3, i4⟩
  dsimp only at i1 i2 i3 i4 ⊢
  ((iterate 2 refine sw_seq ?_); refine sw_region ?_; (iterate 4 refine so_1 rfl ?_); refine so_nil (sn_then ?_))
  refine sw_if rfl (fun h1 => ?_) (fun h1 => ?_)
  · obtain ⟨gA, oA, rfl⟩ := k3 (by omega)
    have h1' : i < l.length := by omega
    have h2' : i < m.length := by omega
    have hml : m[i] = l[i] := by
      have := congrArg (·[0]?) i2
      simpa [h1', h2'] using this
    have hmem := List.getElem_mem h1'
    have e32 := h32 _ hmem
    obtain ⟨es, eb, en, ee⟩ := hl _ hmem
    have hdr : m.drop i = l[i] :: m.drop (i + 1) := by rw [← hml]; exact List.drop_eq_getElem_cons h2'
    have hset : spl (ltsC m) (i * 40) (ltC ltO) = ltsC (m.set i ltO) := flC_set (lt_len40 i4) rfl h2'
    have hcm : ∀ j, j < 40 → (ltsC m)[i * 40 + j]? = (ltC l[i])[j]? := fun j hj => by rw [flC_at (lt_len40 i4) h2' hj, hml]
    have hlenm : (ltsC m).length = m.length * 40 := flC_len (lt_len40 i4)
    have hdr2 : (m.set i ltO).drop (i + 1) = m.drop (i + 1) := by rw [List.drop_set_of_lt (by omega)]
    have hdr3 : m.drop (i + 1) = l.drop (i + 1) := by
      have := congrArg (List.drop 1) i2
      rwa [List.drop_drop, List.drop_drop] at this
    generalize l[i] = x at *
    refine sw_ent (G := rZ x.sv x.seen :: rEs x.ev x.evs :: all (evF x.evs) :: rB x.bv x.bs :: row t_api_Letter 40 (.slice (some ⟨gA, oA, none⟩) l.length c) l.length (ltsC m) :: all (ltsF (m.drop (i + 1))) :: F) (by
      rw [hdr]
      exact (ent_keep 2 [1, 0] rfl rfl).trans ((ent_out (A := ltsF (x :: m.drop (i + 1))) (B := ltP x) (C := ltsF (m.drop (i + 1))) (.refl _)).trans (ent_keep 6 [0, 1, 2, 3, 5, 4] rfl rfl))) ?_
    (refine sw_skip ?_; refine sn_then ?_; refine sw_seq ?_; refine sw_block ?_; refine sw_seq (sw_region ?_); (iterate 2 refine so_1 rfl ?_); refine so_2 rfl (by omega) ?_; refine so_1 rfl ?_)
    refine so_rd rfl (fun w H => ex_load rfl rfl rfl (by rw [mulz_eq, Int.toNat_natCast, Nat.add_assoc]; exact row_cell (k := 4) rfl ((hcm 3 (by omega)).trans rfl) w H)) rfl ?_
    refine so_call rfl rfl rfl (OverInts_D (v := x.sv) (l := x.seen) es) ?_
    rintro _ _ rfl
    (refine so_nil (sn_then ?_); refine sw_seq (sw_region ?_); (iterate 2 refine so_1 rfl ?_); refine so_2 rfl (by omega) ?_; refine so_1 rfl ?_)
    refine so_rd rfl (fun w H => ex_load rfl rfl rfl (by rw [mulz_eq, Int.toNat_natCast, Nat.add_assoc]; exact row_cell (k := 3) rfl ((hcm 4 (by omega)).trans rfl) w H)) rfl ?_
    refine so_call rfl rfl rfl (OverEvents_D (v := x.ev) (l := x.evs) (fun e he => (ee e he).1) (fun e he => (ee e he).2) en) ?_
    rintro _ _ rfl
    (refine so_nil (sn_then ?_); refine sw_seq (sw_region ?_); (iterate 2 refine so_1 rfl ?_); refine so_2 rfl (by omega) ?_; refine so_1 rfl ?_)
    refine so_rd rfl (fun w H => ex_load rfl rfl rfl (by rw [mulz_eq, Int.toNat_natCast, Nat.add_assoc]; exact row_cell (k := 1) rfl ((hcm 39 (by omega)).trans (by rw [← nth_eq]; exact ltC_bv e32)) w H)) rfl ?_
    refine so_call rfl rfl rfl (OverBytes_S (v := x.bv) (l := x.bs) (by omega)) ?_
    rintro _ _ ⟨l', rfl⟩
    refine so_ent (ent_keep 1 [] rfl rfl) ?_
    (refine so_nil (sn_then ?_); refine sw_region ?_; (iterate 3 refine so_1 rfl ?_); refine so_2 rfl (by omega) ?_)
    refine so_know 29 (.agg ⟨ltC ltO⟩) rfl rfl ?_
    skip
    refine so_strow 0 (i * 40) rfl rfl rfl rfl rfl rfl rfl rfl hset rfl (by rw [mulz_eq, Int.toNat_natCast]) (by rw [hlenm]; have : (ltC ltO).length = 40 := rfl; omega) (ltC_one rfl rfl rfl) ?_
    (refine so_nil ?_; refine sn_block ?_; refine sn_then ?_; refine sw_region ?_; refine so_1 rfl ?_; refine so_2 rfl (by (unfold I64; omega)) ?_; refine so_1 rfl ?_; refine so_nil ?_)
    refine sn_round (i + 1, m.set i ltO) ⟨rfl, rfl, trivial⟩ (by simp only [hdr2]; exact Ent.refl _) ⟨by dsimp only; omega, by dsimp only; rw [hdr2, hdr3], by dsimp only; rw [List.length_set]; exact i3, fun e he => by
      rcases List.mem_or_eq_of_mem_set he with h | rfl
      · exact i4 e h
      · rfl⟩ (by dsimp only; omega)
  · (refine sw_exit ?_; refine sn_then_exit ?_; refine sn_loop_exit ?_; refine sn_block_exit ?_)
    refine sn_end rfl .nil (ent_keep 2 [] rfl rfl) ?_
    rfl
end
end Go.Proofs.YtmeiadgpglpelaaGreat
/- Letters: which letters Note and Ship make (LetterMakes). Conditions: none. -/
namespace Go.Proofs.YtmeiadgpglpelaaGreat
open Go Go.Eng Go.RowKit

theorem ent_ltsF2 {F : List SP} {x y : Lt} : Ent (lP x :: lP y :: F) (all (ltsF [x, y]) :: F) := by
  refine (ent_open (G := ltP x)).trans ?_
  refine (ent_keep 5 [4, 0, 1, 2, 3] rfl rfl).trans ?_
  refine (ent_open (G := ltP y)).trans ?_
  exact (ent_keep 8 [4, 5, 6, 7, 0, 1, 2, 3] rfl rfl).trans (ent_close (G := ltP x ++ (ltP y ++ [])))
theorem over_nE (e f : Ev) (h : nE e = nE f) (hf : (f.id.length = 32 ∧ len32 f.refs) ∧ (f.deps.length ≤ 1000000 ∧ f.refs.length ≤ 1000000)) : (e.id.length = 32 ∧ len32 e.refs) ∧ (e.deps.length ≤ 1000000 ∧ e.refs.length ≤ 1000000) := by
  obtain ⟨dv, rv, rfl⟩ := nE_eq h.symm
  exact hf
set_option maxRecDepth 20000 in
set_option maxHeartbeats 16000000 in
theorem walk_LetterMakes {W : World} {ve vl vs vb : Value} {e : Ev} {l : Lt} {to' : Int} {seen bs : List Int} (hE : EA W ve e) (hA : LA W vl l) (hS : VL (Value.int .i64) W vs seen) (hVb : VL (Value.int .u8) W vb bs ∧ byteW bs) :
    Calls Tryz.prog n_entrepotlaw25_LetterMakes #[ve, vl, .int .i64 to', vs, vb] W (fun e w' => e = .returned (.bool true) ∧ Ext W w') := by
  obtain ⟨rfl, hew, her0⟩ := hE
  obtain ⟨rfl, hw, hlr0⟩ := id hA
  obtain ⟨hV, hbw⟩ := hVb
  obtain ⟨Av, cv, rfl, _, _, _, _⟩ := hV.form
  obtain ⟨As, cs, rfl, _, _, _, _⟩ := hS.form
  refine law_of (args := [evV e, ltV l, .int .i64 to', .slice As seen.length cs, .slice Av bs.length cv]) ?_
  have hlr : ∀ {F : List SP} {k : Nat}, nth F k = some (Is W) → ∀ w, Sat W F w → LR w l := fun hk w H => hlr0.ext (H.is hk)
  have her : ∀ {F : List SP} {k : Nat}, nth F k = some (Is W) → ∀ w, Sat W F w → ER w e := fun hk w H => her0.ext (H.is hk)
  have hvb : ∀ {F : List SP} {k : Nat}, nth F k = some (Is W) → ∀ w, Sat W F w → VL (Value.int .u8) w (.slice Av bs.length cv) bs := fun hk w H => hV.ext (H.is hk)
  have hvs : ∀ {F : List SP} {k : Nat}, nth F k = some (Is W) → ∀ w, Sat W F w → VL (Value.int .i64) w (.slice As seen.length cs) seen := fun hk w H => hS.ext (H.is hk)
  have h32 := hw.id.1
  have xl := ltC_len h32
  have el := evC_len hew.l32
  have he32 : ∀ e ∈ l.evs, e.id.length = 32 := fun e he => (hw.evs e he).l32
  obtain ⟨e1, e2⟩ := er_form her0
  refine enterS F_entrepotlaw25_LetterMakes rfl rfl rfl ?_
  (refine sw_seq (sw_region ?_))
  refine so_box rfl rfl rfl rfl rfl fun g5 => ?_
  refine so_box rfl rfl rfl rfl rfl fun g6 => ?_
  (refine so_1 rfl ?_; refine so_nil (sn_then ?_); (iterate 2 refine sw_seq ?_); refine sw_region ?_)
  refine so_ldA 1 rfl rfl rfl rfl rfl rfl (segO_all (by rw [el]; rfl)) rfl ?_
  refine so_call rfl rfl rfl (LongEvent_S hew.l32 (her (k := 2) rfl)) ?_
  rintro _ _ ⟨q, hq, rfl, rfl⟩
  cases q with
  | true =>
    ((iterate 14 refine so_1 rfl ?_); refine so_nil (sn_then ?_); refine sw_cond_t rfl ?_; refine sw_seq (sw_region ?_))
    refine so_callE rfl rfl rfl (awake25_S) ?_
    (refine so_1 rfl ?_; refine so_nil (sn_then ?_); refine sw_ret ?_; refine sn_then_ret ?_)
    refine sn_ret rfl (.tmp rfl .nil) (ent_keep 2 [] rfl rfl) ?_
    exact ⟨rfl, rfl⟩
  | false =>
  obtain ⟨q1, q2, q3, q4⟩ := hq rfl
  (refine so_1 rfl ?_)
  refine so_ldA 0 rfl rfl rfl rfl rfl rfl (segO_all (by rw [xl]; rfl)) rfl ?_
  refine so_call rfl rfl rfl (LongLetter_S h32 he32 (hlr (k := 2) rfl)) ?_
  rintro _ _ ⟨q, hq, rfl, rfl⟩
  cases q with
  | true =>
    ((iterate 11 refine so_1 rfl ?_); refine so_nil (sn_then ?_); refine sw_cond_t rfl ?_; refine sw_seq (sw_region ?_))
    refine so_callE rfl rfl rfl (awake25_S) ?_
    (refine so_1 rfl ?_; refine so_nil (sn_then ?_); refine sw_ret ?_; refine sn_then_ret ?_)
    refine sn_ret rfl (.tmp rfl .nil) (ent_keep 2 [] rfl rfl) ?_
    exact ⟨rfl, rfl⟩
  | false =>
  have hl := hA.long (hq rfl)
  ((iterate 7 refine so_1 rfl ?_))
  refine so_if 28 rfl (fun h1 => ?_) (fun h1 => ?_)
  · ((iterate 4 refine so_1 rfl ?_); refine so_nil (sn_then ?_); refine sw_cond_t rfl ?_; refine sw_seq (sw_region ?_))
    refine so_callE rfl rfl rfl (awake25_S) ?_
    (refine so_1 rfl ?_; refine so_nil (sn_then ?_); refine sw_ret ?_; refine sn_then_ret ?_)
    refine sn_ret rfl (.tmp rfl .nil) (ent_keep 2 [] rfl rfl) ?_
    exact ⟨rfl, rfl⟩
  ((iterate 4 refine so_1 rfl ?_); refine so_nil (sn_then ?_))
  refine sw_if rfl (fun h2 => ?_) (fun h2 => ?_)
  · (refine sw_seq (sw_region ?_))
    refine so_callE rfl rfl rfl (awake25_S) ?_
    (refine so_1 rfl ?_; refine so_nil (sn_then ?_); refine sw_ret ?_; refine sn_then_ret ?_)
    refine sn_ret rfl (.tmp rfl .nil) (ent_keep 2 [] rfl rfl) ?_
    exact ⟨rfl, rfl⟩
  (refine sw_skip ?_; refine sn_then ?_; refine sw_seq (sw_region ?_))
  refine so_ldA 1 rfl rfl rfl rfl rfl rfl (segO_all (by rw [el]; rfl)) rfl ?_
  refine so_call rfl rfl rfl (CopyEvent_S (her (k := 2) rfl) hew.l32 (by omega) (by omega)) ?_
  rintro _ _ ⟨dv, rv, rfl, rfl⟩
  refine so_fact (fun w H => er_form (er_rows (e := e) (j := 0) (k := 1) rfl rfl w H)) ?_
  rintro ⟨e3, e4⟩
  (refine so_1 rfl ?_)
  refine so_call rfl rfl rfl (LentBytes_S (by omega) (hvb (k := 4) rfl)) ?_
  rintro _ _ ⟨A2, c2, rfl, rfl⟩
  (refine so_1 rfl ?_)
  refine so_call rfl rfl rfl (CopyInts_S (hvs (k := 5) rfl) (by omega)) ?_
  rintro sv _ rfl
  refine so_fact (fun w H => (H.oat (k := 0) rfl).form) ?_
  rintro ⟨A3, c3, rfl, _, _, _⟩
  have yl : (evC (e.own dv rv)).length = 39 := evC_len hew.l32
  refine so_new rfl rfl rfl rfl rfl fun g11 => ?_
  refine so_stW 0 rfl rfl rfl rfl rfl rfl rfl yl (evC_one (e := e.own dv rv) e3 e4) (by rw [yl]; rfl) ?_
  ((iterate 2 refine so_1 rfl ?_); refine so_nil (sn_then ?_); refine sw_seq ?_)
  refine sw_rel (fl := flo) 10 [] [(2, .int .i64 to'), (3, .slice As seen.length cs), (4, .slice Av bs.length cv), (5, .pointer (some ⟨g5, 0, none⟩)), (6, .pointer (some ⟨g6, 0, none⟩)), (11, .pointer (some ⟨g11, 0, none⟩)), (12, .slice A2 bs.length c2), (13, .slice A3 seen.length c3)] ⟨rfl, rfl, rfl, rfl, rfl, rfl, rfl, rfl, trivial⟩ rfl (by kernel_rfl) (by kernel_rfl) ?_
  refine fr_ldA 0 rfl rfl rfl (fun _ => rfl) rfl (segO_all (by rw [yl]; rfl)) ?_
  ((iterate 2 refine fr_p (fun _ => rfl) ?_))
  have hn32 : (noteL (e.own dv rv) to' seen).id.length = 32 := rfl
  have hs32 : (shipL l bs seen).id.length = 32 := h32
  refine fr_call (R := fun v X => ∃ y : Lt, (nL y = nL (noteL (e.own dv rv) to' seen) ∧ (ltC y).length = 40 ∧ ∀ u ∈ ltC y, u.oneCell' = true) ∧ v = ltV y ∧ X = [lP y]) (fun _ => rfl) (fun A => (gatherL hn32 (Note_S (e := e.own dv rv) (seen := seen) hew.l32 (up (er_rows (e := e) (j := 3) (k := 4) rfl rfl) (ent_post A)) (by show e.deps.length ≤ _; omega) (by show e.refs.length ≤ _; omega) (up (vlZ (k := 1) rfl) (ent_post A)) (by omega))).mono fun v G ⟨y, h1, h2, h3⟩ => ⟨[lP y], ⟨y, h1, h2, rfl⟩, h3⟩) ?_
  refine fr_ldA 5 rfl rfl rfl (fun _ => rfl) rfl (segO_all (by rw [xl]; rfl)) ?_
  ((iterate 2 refine fr_p (fun _ => rfl) ?_))
  refine fr_call (R := fun v X => ∃ y : Lt, (nL y = nL (shipL l bs seen) ∧ (ltC y).length = 40 ∧ ∀ u ∈ ltC y, u.oneCell' = true) ∧ v = ltV y ∧ X = [lP y]) (fun _ => rfl) (fun A => (gatherL hs32 (Ship_S (a := l) (bs := bs) (seen := seen) h32 (up (rL_vl (k := 2) rfl) (ent_post A)) (by omega) (up (vlZ (k := 1) rfl) (ent_post A)) (by omega))).mono fun v G ⟨y, h1, h2, h3⟩ => ⟨[lP y], ⟨y, h1, h2, rfl⟩, h3⟩) ?_
  ((iterate 2 refine fr_new rfl rfl rfl ?_))
  refine .done rfl ?_
  rintro gs us Ys ⟨⟨y1, ⟨hy1, y1l, y11⟩, hu3, hY3⟩, ⟨y2, ⟨hy2, y2l, y21⟩, hu7, hY7⟩, _⟩
  refine ⟨ent_nil _, ?_⟩
  dsimp only [newR, List.nil_append, List.cons_append]
  rw [hY3, hY7]
  obtain ⟨g14, hg14⟩ : ∃ g, gs 8 = g := ⟨_, rfl⟩
  obtain ⟨g15, hg15⟩ : ∃ g, gs 9 = g := ⟨_, rfl⟩
  rw [hg14, hg15]
  refine sd_know 14 (.pointer (some ⟨g14, 0, none⟩)) rfl (congrArg (fun z => Value.pointer (some ⟨z, 0, none⟩)) hg14) ?_
  refine sd_know 15 (.pointer (some ⟨g15, 0, none⟩)) rfl (congrArg (fun z => Value.pointer (some ⟨z, 0, none⟩)) hg15) ?_
  refine sd_know 43 (ltV y1) rfl hu3 ?_
  refine sd_know 47 (ltV y2) rfl hu7 ?_
  refine sd_stW (vs := ltC y1) 2 rfl rfl rfl rfl rfl rfl rfl rfl y1l y11 (by rw [y1l]; rfl) (ent_nil _) ?_
  refine sd_stW (vs := ltC y2) 3 rfl rfl rfl rfl rfl rfl rfl rfl y2l y21 (by rw [y2l]; rfl) (ent_nil _) ?_
  refine sd_nil (sn_then (sw_seq ?_))
  clear hu3 hu7 hY3 hY7 hg14 hg15
  refine sw_sub (E' := [(2, .int .i64 to'), (3, .slice As seen.length cs), (4, .slice Av bs.length cv), (5, .pointer (some ⟨g5, 0, none⟩)), (6, .pointer (some ⟨g6, 0, none⟩)), (11, .pointer (some ⟨g11, 0, none⟩)), (12, .slice A2 bs.length c2), (13, .slice A3 seen.length c3), (14, .pointer (some ⟨g14, 0, none⟩)), (15, .pointer (some ⟨g15, 0, none⟩))]) ⟨rfl, rfl, rfl, rfl, rfl, rfl, rfl, rfl, rfl, rfl, trivial⟩ ?_
  have hy1' : nL y1 = nL (noteL e to' seen) := hy1
  refine sw_draw flo (lP y1 :: lP y2 :: pt g14 t_api_Letter (ltC y1) :: pt g15 t_api_Letter (ltC y2) :: pt g11 t_api_Event (evC (e.own dv rv)) :: rZ (.slice A3 seen.length c3) seen :: rL A2 c2 bs :: rZ dv e.deps :: rD rv e.refs :: pt g6 t_api_Letter (ltC l) :: pt g5 t_api_Event (evC e) :: [Is W]) (by decide +kernel) (Ent.refl _) ?_
  skip
  refine sd_ldA 2 rfl rfl rfl rfl rfl rfl (segO_all (by rw [y1l]; rfl)) rfl rfl ?_
  refine sd_ldA 10 rfl rfl rfl rfl rfl rfl (segO_all (by rw [el]; rfl)) rfl rfl ?_
  ((iterate 2 refine sd_1 rfl (.inl rfl) ?_))
  refine sd_call rfl rfl rfl rfl (gatherL (z := noteL e to' seen) rfl (rNote_S (seen := seen) hew.l32 (her (k := 11) rfl) (by omega) (by omega) (hvs (k := 11) rfl) (by omega))) ?_
  rintro _ _ ⟨z1, ⟨hz1, _, _⟩, rfl, rfl⟩
  refine ⟨ent_keep 1 [] rfl rfl, ?_⟩
  have y132 : y1.id.length = 32 := by rw [nL_id hy1]; rfl
  have y232 : y2.id.length = 32 := by rw [nL_id hy2]; exact h32
  have hne1 : ∀ x ∈ y1.evs, x.id.length = 32 ∧ len32 x.refs ∧ x.refs.length ≤ 1000000 := ev_nE (P := fun e => e.id.length = 32 ∧ len32 e.refs ∧ e.refs.length ≤ 1000000) same_nE (nL_evs hy1') (fun x hx => by rw [List.mem_singleton.1 hx]; exact ⟨hew.l32, hew.r32, by omega⟩)
  have hne2 : y2.evs = [] := by have := nL_evs hy2; simpa [shipL] using this
  refine sd_callE rfl rfl rfl rfl ((SameLetter_S (hy1'.trans hz1.symm) (lP_lr (y := y1) (k := 1) rfl) (lP_lr (y := z1) (k := 0) rfl) y132 hne1)) (ent_keep 1 [] rfl rfl) ?_
  (refine sd_1 rfl (.inl rfl) ?_)
  refine sd_ldA 3 rfl rfl rfl rfl rfl rfl (segO_all (by rw [y2l]; rfl)) rfl rfl ?_
  refine sd_ldA 9 rfl rfl rfl rfl rfl rfl (segO_all (by rw [xl]; rfl)) rfl rfl ?_
  ((iterate 2 refine sd_1 rfl (.inl rfl) ?_))
  refine sd_call rfl rfl rfl rfl (gatherL (z := shipL l bs seen) h32 (rShip_S (a := l) (bs := bs) (seen := seen) h32 (hvb (k := 12) rfl) (by omega) (hvs (k := 12) rfl) (by omega))) ?_
  rintro _ _ ⟨z2, ⟨hz2, _, _⟩, rfl, rfl⟩
  refine ⟨ent_keep 2 [] rfl rfl, ?_⟩
  refine sd_callE rfl rfl rfl rfl ((SameLetter_S (hy2.trans hz2.symm) (lP_lr (y := y2) (k := 3) rfl) (lP_lr (y := z2) (k := 0) rfl) y232 (by rw [hne2]; exact fun x hx => by cases hx))) (ent_keep 2 [] rfl rfl) ?_
  ((iterate 2 refine sd_1 rfl (.inl rfl) ?_))
  refine sd_nil ?_
  (refine sn_then ?_; refine sw_seq (sw_region ?_))
  refine so_ldA 4 rfl rfl rfl rfl rfl rfl (segO_all (by rw [y1l]; rfl)) rfl ?_
  refine so_ldA 5 rfl rfl rfl rfl rfl rfl (segO_all (by rw [y2l]; rfl)) rfl ?_
  refine so_lit2 rfl rfl rfl rfl rfl rfl rfl rfl rfl (by rw [y1l]; rfl) (by rw [y2l]; rfl) (by decide) fun gl => ?_
  have hev : ltsC [y1, y2] = ltC y1 ++ ltC y2 := by simp [ltsC, flC]
  refine so_ent (G := rLs (.slice (some ⟨gl, 0, none⟩) 2 2) [y1, y2] :: all (ltsF [y1, y2]) :: pt g11 t_api_Event (evC (e.own dv rv)) :: rZ (.slice A3 seen.length c3) seen :: rL A2 c2 bs :: rZ dv e.deps :: rD rv e.refs :: pt g6 t_api_Letter (ltC l) :: pt g5 t_api_Event (evC e) :: [Is W]) (by
    rw [rLs, hev]
    exact (ent_blk_row (t := t_api_Letter) (sz := 40) (n := 2) (v := .slice (some ⟨gl, 0, none⟩) 2 2) rfl (by rw [List.length_append, y1l, y2l]) (by decide) 0 rfl rfl).trans ((ent_keep 14 [3, 4, 0, 7, 8, 9, 10, 11, 12, 13] rfl rfl).trans (ent_ltsF2.trans (ent_keep 2 [1, 0] rfl rfl)))) ?_
  have hov : ∀ x ∈ [y1, y2], x.id.length = 32 ∧ (x.seen.length ≤ 1000000 ∧ x.bs.length ≤ 1000000 ∧ x.evs.length ≤ 1000000 ∧ ∀ e ∈ x.evs, (e.id.length = 32 ∧ len32 e.refs) ∧ (e.deps.length ≤ 1000000 ∧ e.refs.length ≤ 1000000)) := fun x hx => by
    simp only [List.mem_cons, List.not_mem_nil, or_false] at hx
    rcases hx with rfl | rfl
    · have hle : x.evs.length = 1 := by have := congrArg List.length (nL_evs hy1'); simpa [noteL] using this
      have s1 : x.seen = seen := nL_seen hy1'
      have s2 : x.bs = [] := nL_bs hy1'
      refine ⟨y132, by rw [s1]; omega, by rw [s2]; exact Nat.zero_le _, by omega, ?_⟩
      exact ev_nE (P := fun e => (e.id.length = 32 ∧ len32 e.refs) ∧ (e.deps.length ≤ 1000000 ∧ e.refs.length ≤ 1000000)) over_nE (nL_evs hy1') (fun f hf => by rw [List.mem_singleton.1 hf]; exact ⟨⟨hew.l32, hew.r32⟩, by omega, by omega⟩)
    · have s1 : x.seen = seen := nL_seen hy2
      have s2 : x.bs = bs := nL_bs hy2
      exact ⟨y232, by rw [s1]; omega, by rw [s2]; omega, by rw [hne2]; exact Nat.zero_le _, by rw [hne2]; exact fun f hf => by cases hf⟩
  refine so_call rfl rfl rfl (OverLetters_S (l := [y1, y2]) (fun x hx => (hov x hx).1) (fun x hx => (hov x hx).2) (by show 2 ≤ 1000000; decide)) ?_
  rintro _ _ rfl
  (refine so_nil (sn_then ?_); refine sw_seq (sw_region ?_); (iterate 2 refine so_1 rfl ?_))
  refine so_ldA 0 rfl rfl rfl rfl rfl rfl (segO_all (by rw [yl]; rfl)) rfl ?_
  refine so_ldA 6 rfl rfl rfl rfl rfl rfl (segO_all (by rw [el]; rfl)) rfl ?_
  refine so_callE rfl rfl rfl (SameEvent_S (e := e.own dv rv) (f := e) rfl (er_rows (e := e) (j := 3) (k := 4) rfl rfl) (her (k := 7) rfl) hew.l32 hew.r32 (by show e.refs.length ≤ _; omega)) ?_
  ((iterate 4 refine so_1 rfl ?_))
  refine so_callE rfl rfl rfl ((KeptBytes_S (l := bs) (F := pt g11 t_api_Event (evC (e.own dv rv)) :: rZ (.slice A3 seen.length c3) seen :: rZ dv e.deps :: rD rv e.refs :: pt g6 t_api_Letter (ltC l) :: pt g5 t_api_Event (evC e) :: [Is W]) (by omega) (hvb (k := 6) rfl)).at (ent_keep 3 [2, 0, 1] rfl rfl) (ent_keep 3 [1, 2, 0] rfl rfl)) ?_
  ((iterate 4 refine so_1 rfl ?_))
  refine so_callE rfl rfl rfl (SameInts_S (vlZ (k := 1) rfl) (hvs (k := 7) rfl)) ?_
  ((iterate 2 refine so_1 rfl ?_))
  refine so_know 82 (.bool true) rfl (by simp) ?_
  skip
  refine so_callE rfl rfl rfl (awake25_S) ?_
  ((iterate 2 refine so_1 rfl ?_); refine so_nil (sn_then ?_); refine sw_ret ?_)
  refine sn_ret rfl (.tmp rfl .nil) (ent_keep 7 [] rfl rfl) ?_
  exact ⟨rfl, rfl⟩
end Go.Proofs.YtmeiadgpglpelaaGreat
/- Letters: the document's Check, its parts. Conditions: numbers of 64 bits; not too much. -/
namespace Go.Proofs.YtmeiadgpglpelaaGreat
open Go Go.Eng Go.RowKit

section
variable {b : World} {F : List SP} {x : Lt}
end
end Go.Proofs.YtmeiadgpglpelaaGreat
/- Letters: the document's Check. Conditions: numbers of 64 bits; not too much. -/
namespace Go.Proofs.YtmeiadgpglpelaaGreat
open Go Go.Eng Go.RowKit

section
variable {b : World} {F : List SP} {x : Lt} {n w0 : Int}
end
end Go.Proofs.YtmeiadgpglpelaaGreat
/- Letters as bytes: the document's Encode; both check and encode alike (LetterChecks). Conditions: none. -/
namespace Go.Proofs.YtmeiadgpglpelaaGreat
open Go Go.Eng Go.RowKit

section
variable {b : World} {F : List SP} {x : Lt}
end
end Go.Proofs.YtmeiadgpglpelaaGreat
/- Letters: both check and encode alike (LetterChecks). Conditions: none. -/
namespace Go.Proofs.YtmeiadgpglpelaaGreat
open Go Go.Eng Go.RowKit

end Go.Proofs.YtmeiadgpglpelaaGreat
/- Letters as bytes: the document's Decode. Conditions: not too many bytes. -/
namespace Go.Proofs.YtmeiadgpglpelaaGreat
open Go Go.Eng Go.RowKit

section
variable {b : World} {F : List SP} {B : List Int} {s : RS} {g : Nat} {vb : Value}
end
section
variable {b : World} {F : List SP} {B : List Int}
end
end Go.Proofs.YtmeiadgpglpelaaGreat
/- Letters: both decode alike (LetterDecodes). Conditions: none. -/
namespace Go.Proofs.YtmeiadgpglpelaaGreat
open Go Go.Eng Go.RowKit

section
variable {b : World} {F : List SP}
end
end Go.Proofs.YtmeiadgpglpelaaGreat
