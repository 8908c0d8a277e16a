/- Letters: the program's Note and Ship. Conditions: not too much. -/
import Derived.Test.YtmeiadgpglpelaaGreatM9
import Derived.Test.YtmeiadgpglpelaaGreatM8
import Derived.Test.YtmeiadgpglpelaaGreatM5
import Derived.Test.YtmeiadgpglpelaaGreatM3
import Derived.Test.YtmeiadgpglpelaaGreatM0
namespace Go.Proofs.YtmeiadgpglpelaaGreat
open Go Go.Eng Go.RowKit

/-- A Note; a Ship. -/
def noteL (e : Ev) (to' : Int) (seen : List Int) : Lt := ⟨1, e.r, to', nS, seen, nS, [e], 0, 0, List.replicate 32 0, nS, []⟩
def shipL (x : Lt) (bs : List Int) (seen : List Int) : Lt := ⟨5, x.to', x.from', nS, seen, nS, [], x.r, x.n, x.id, nS, bs⟩
/-- A letter that is made, ahead of its options. -/
def ltM (k f t : Int) (sv : Value) (seen : List Int) : Lt := ⟨k, f, t, sv, seen, nS, [], 0, 0, List.replicate 32 0, nS, []⟩
abbrev optV (f : Nat) (caps : List Value) : Value := .func (.func f) ⟨[]⟩ ⟨caps⟩
section
variable {b : World} {F : List SP}
theorem of_S {e : Ev} : SC Tryz.prog n_letter_of [evV e] b F (fun u F' => ∃ g, u = optV n_letter_of_1 [.pointer (some ⟨g, 0, none⟩)] ∧ F' = pt g t_api_Event (evC e) :: F) := by
  refine enterS F_letter_of rfl rfl rfl ?_
  (refine sw_seq (sw_region ?_))
  refine so_box rfl rfl rfl rfl rfl fun g => ?_
  (refine so_1 rfl ?_; refine so_nil (sn_then ?_); refine sw_seq (sw_region ?_); (iterate 2 refine so_1 rfl ?_); refine so_nil (sn_then ?_); refine sw_ret ?_)
  refine sn_ret rfl (.tmp rfl .nil) (Ent.refl _) ?_
  exact ⟨g, rfl, rfl⟩
theorem about_S {r n : Int} {id : List Int} : SC Tryz.prog n_letter_about [dotV r n, idV id] b F (fun u F' => ∃ g h, u = optV n_letter_about_1 [.pointer (some ⟨g, 0, none⟩), .pointer (some ⟨h, 0, none⟩)] ∧ F' = pt h t_api_ID (u8s id) :: pt g t_api_Dot [.int .i64 r, .int .i64 n] :: F) := by
  refine enterS F_letter_about rfl rfl rfl ?_
  (refine sw_seq (sw_region ?_))
  refine so_box rfl rfl rfl rfl rfl fun g => ?_
  refine so_box rfl rfl rfl rfl rfl fun h => ?_
  (refine so_1 rfl ?_; refine so_nil (sn_then ?_); refine sw_seq (sw_region ?_); (iterate 2 refine so_1 rfl ?_); refine so_nil (sn_then ?_); refine sw_ret ?_)
  refine sn_ret rfl (.tmp rfl .nil) (Ent.refl _) ?_
  exact ⟨g, h, rfl, rfl⟩
theorem with_S {A : Option Addr} {n c : Nat} : SC Tryz.prog n_letter_with [.slice A n c] b F (fun u F' => ∃ g, u = optV n_letter_with_1 [.pointer (some ⟨g, 0, none⟩)] ∧ F' = pt g t_sl_uint8 [.slice A n c] :: F) := by
  refine enterS F_letter_with rfl rfl rfl ?_
  (refine sw_seq (sw_region ?_))
  refine so_box rfl rfl rfl rfl rfl fun g => ?_
  (refine so_1 rfl ?_; refine so_nil (sn_then ?_); refine sw_seq (sw_region ?_); (iterate 2 refine so_1 rfl ?_); refine so_nil (sn_then ?_); refine sw_ret ?_)
  refine sn_ret rfl (.tmp rfl .nil) (Ent.refl _) ?_
  exact ⟨g, rfl, rfl⟩
set_option maxRecDepth 20000 in
set_option maxHeartbeats 2000000 in
theorem of1_S {gl ge : Nat} {x : Lt} {e : Ev} (h32 : e.id.length = 32) (he : ∀ w, Sat b F w → ER w e) (hd : e.deps.length ≤ 1000000) (hl : e.refs.length ≤ 1000000) :
    SC Tryz.prog n_letter_of_1 [.pointer (some ⟨gl, 0, none⟩), .pointer (some ⟨ge, 0, none⟩)] b (pt gl t_api_Letter (ltC x) :: pt ge t_api_Event (evC e) :: F)
      (fun _ F' => ∃ dv rv gs, F' = pt gl t_api_Letter (ltC { x with ev := .slice (some ⟨gs, 0, none⟩) 1 1, evs := [e.own dv rv] }) :: pt ge t_api_Event (evC (e.own dv rv)) :: rEs (.slice (some ⟨gs, 0, none⟩) 1 1) [e.own dv rv] :: all (evF [e.own dv rv]) :: F) := by
  have her : ∀ w, Sat b (pt gl t_api_Letter (ltC x) :: pt ge t_api_Event (evC e) :: F) w → ER w e := up he (ent_keep 2 [] rfl rfl)
  refine enterS F_letter_of_1 rfl rfl rfl ?_
  (refine sw_seq ?_)
  refine sw_draw2 flo 7 (pt ge t_api_Event (evC e) :: F) [] rfl (by decide +kernel) (ent_keep 2 [1] rfl rfl) ?_
  (refine sd_1 rfl (.inl rfl) ?_; refine sd_l 0 rfl rfl rfl rfl ?_)
  refine sd_call rfl rfl rfl rfl (Clone_ints (fun w H => (her w H).dv) hd) ?_
  rintro dv _ rfl
  refine ⟨ent_keep 3 [2] rfl rfl, ?_⟩
  (refine sd_1 rfl (.inl rfl) ?_)
  refine sd_ld 0 rfl rfl rfl rfl rfl rfl (evC_rv h32) rfl rfl ?_
  refine sd_call rfl rfl rfl rfl (Clone_ids (fun w H => (her w (H.ent (ent_keep 1 [] rfl rfl))).rv) hl) ?_
  rintro rv _ rfl
  refine ⟨ent_keep 4 [3] rfl rfl, ?_⟩
  (refine sd_1 rfl (.inl rfl) ?_)
  refine sd_nil (sn_draw2 rfl (ent_nil _) ?_)
  refine sd_fact (fun w H => (H.oat (k := 1) rfl).form) ?_
  rintro ⟨A1, c1, rfl, _, _, _⟩
  refine sd_fact (fun w H => (H.oat (k := 0) rfl).form) ?_
  rintro ⟨A2, c2, rfl, _, _, _⟩
  refine sd_st 3 rfl rfl rfl rfl rfl rfl rfl rfl rfl (show stO (evC e) 2 _ = some (evC { e with dv := .slice A1 e.deps.length c1 }) from rfl) rfl (ent_nil _) ?_
  (refine sd_1 rfl (.inl rfl) ?_)
  refine sd_st 3 rfl rfl rfl rfl rfl rfl rfl rfl rfl (evC_strv (e := { e with dv := .slice A1 e.deps.length c1 }) h32) rfl (ent_nil _) ?_
  have hyl := evC_len (e := e.own (.slice A1 e.deps.length c1) (.slice A2 e.refs.length c2)) h32
  have hy1 := evC_one (e := e.own (.slice A1 e.deps.length c1) (.slice A2 e.refs.length c2)) rfl rfl
  have hyP : evF [e.own (.slice A1 e.deps.length c1) (.slice A2 e.refs.length c2)] = [rZ (.slice A1 e.deps.length c1) e.deps, rD (.slice A2 e.refs.length c2) e.refs] := rfl
  refine sd_fact (p := ∃ y, y = e.own (.slice A1 e.deps.length c1) (.slice A2 e.refs.length c2)) (fun _ _ => ⟨_, rfl⟩) ?_
  rintro ⟨y, hy⟩
  have hev : ({ { e with dv := .slice A1 e.deps.length c1 } with rv := .slice A2 e.refs.length c2 } : Ev) = y := hy.symm
  rw [← hy] at hyl hy1 hyP
  rw [hev]
  refine sd_nil ?_
  (refine sn_then ?_; refine sw_region ?_; refine so_1 rfl ?_)
  refine so_ldA 3 rfl rfl rfl rfl rfl rfl (segO_all (by rw [hyl]; rfl)) rfl ?_
  refine so_lit1 rfl rfl rfl rfl rfl rfl rfl hyl (by decide) fun gs => ?_
  ((iterate 2 refine so_1 rfl ?_); refine so_s1 3 rfl rfl rfl rfl ?_; refine so_nil ?_)
  refine sn_end rfl .nil (G := pt gl t_api_Letter (ltC { x with ev := .slice (some ⟨gs, 0, none⟩) 1 1, evs := [y] }) :: pt ge t_api_Event (evC y) :: rEs (.slice (some ⟨gs, 0, none⟩) 1 1) [y] :: all (evF [y]) :: F) ?_ ?_
  · have e1 : evsC [y] = evC y := by rw [evsC, flC, flC, List.append_nil]
    rw [hyP, rEs, e1]
    refine (ent_blk_row (t := t_api_Event) (sz := 39) (n := 1) (v := .slice (some ⟨gs, 0, none⟩) 1 1) rfl (by rw [hyl]) (by decide) 0 rfl rfl).trans ?_
    exact (ent_keep 5 [2, 1, 3, 4, 0] rfl rfl).trans ((ent_close (G := [rZ (.slice A1 e.deps.length c1) e.deps, rD (.slice A2 e.refs.length c2) e.refs])).trans (ent_keep 4 [1, 2, 3, 0] rfl rfl))
  · exact ⟨.slice A1 e.deps.length c1, .slice A2 e.refs.length c2, gs, by rw [← hy]⟩
set_option maxRecDepth 20000 in
theorem about1_S {gl gd gi jd ji : Nat} {x : Lt} {r n : Int} {id : List Int} (h32 : x.id.length = 32) (hid : id.length = 32) (hd : nth F jd = some (pt gd t_api_Dot [.int .i64 r, .int .i64 n])) (hi : nth F ji = some (pt gi t_api_ID (u8s id))) :
    SC Tryz.prog n_letter_about_1 [.pointer (some ⟨gl, 0, none⟩), .pointer (some ⟨gd, 0, none⟩), .pointer (some ⟨gi, 0, none⟩)] b (pt gl t_api_Letter (ltC x) :: F) (fun _ F' => F' = pt gl t_api_Letter (ltC { x with r := r, n := n, id := id }) :: F) := by
  refine enterS F_letter_about_1 rfl rfl rfl ?_
  skip
  refine sw_draw flo F (by decide +kernel) (ent_keep 1 [] rfl rfl) ?_
  ((iterate 2 refine sd_1 rfl (.inl rfl) ?_))
  refine sd_ldA jd rfl rfl rfl rfl rfl hd (segO_all (cs := [.int .i64 r, .int .i64 n]) rfl) rfl rfl ?_
  refine sd_ldA ji rfl rfl rfl rfl rfl hi (segO_all (cs := u8s id) (by rw [u8s_len, hid]; rfl)) rfl rfl ?_
  ((iterate 2 refine sd_1 rfl (.inl rfl) ?_))
  refine sd_stA (vs := [.int .i64 r, .int .i64 n]) (cs' := ltC { x with r := r, n := n }) 0 rfl rfl rfl rfl rfl rfl rfl rfl rfl rfl ltC_stdot rfl (ent_keep 1 [] rfl rfl) ?_
  ((iterate 2 refine sd_1 rfl (.inl rfl) ?_))
  refine sd_stA (vs := u8s id) (cs' := ltC { x with r := r, n := n, id := id }) 0 rfl rfl rfl rfl rfl rfl rfl (by rw [u8s_len, hid]; rfl) (List.all_eq_true.2 (u8s_one _)) rfl (ltC_stid (x := { x with r := r, n := n }) h32 hid) rfl (ent_keep 1 [] rfl rfl) ?_
  refine sd_nil ?_
  skip
  refine sn_end rfl .nil (Ent.refl _) ?_
  rfl
theorem with1_S {gl gb jb : Nat} {x : Lt} {vb : Value} {xs : List Int} (h32 : x.id.length = 32) (hb : nth F jb = some (pt gb t_sl_uint8 [vb])) (hv : ∀ w, Sat b F w → VL (Value.int .u8) w vb xs) (hl : xs.length ≤ 1000000) :
    SC Tryz.prog n_letter_with_1 [.pointer (some ⟨gl, 0, none⟩), .pointer (some ⟨gb, 0, none⟩)] b (pt gl t_api_Letter (ltC x) :: F) (fun _ F' => ∃ A c, F' = pt gl t_api_Letter (ltC { x with bv := .slice A xs.length c }) :: rB (.slice A xs.length c) xs :: F) := by
  refine enterS F_letter_with_1 rfl rfl rfl ?_
  (refine sw_region ?_; refine so_1 rfl ?_)
  refine so_ld (jb + 1) rfl rfl rfl rfl rfl hb rfl rfl ?_
  refine so_call rfl rfl rfl (CloneB_S (up hv (ent_keep 1 [] rfl rfl)) hl) ?_
  rintro bv _ rfl
  refine so_fact (fun w H => (H.oat (k := 0) rfl).form) ?_
  rintro ⟨A, c, rfl, _, _, _⟩
  ((iterate 2 refine so_1 rfl ?_))
  refine so_st 1 rfl rfl rfl rfl rfl rfl rfl rfl (ltC_stbv h32) rfl ?_
  (refine so_nil ?_)
  refine sn_end rfl .nil (ent_keep 2 [1, 0] rfl rfl) ?_
  exact ⟨_, _, rfl⟩
set_option maxRecDepth 20000 in
set_option maxHeartbeats 2000000 in
/-- A letter is made of options: J: how it stands, and what memory it has, behind the first ones. -/
theorem made_S {k f t : Int} {vs : Value} {seen : List Int} {gl q : Nat} {opts : List Value} {G0 : List SP} (J : Nat → Lt → List SP → Prop) (hs : ∀ w, Sat b (G0 ++ F) w → VL (Value.int .i64) w vs seen) (hl : seen.length ≤ 1000000) (hq : nth F q = some (pt gl t_letter_option opts)) (ho : opts.length ≤ 1000)
    (h0 : ∀ A c, J 0 (ltM k f t (.slice A seen.length c) seen) (rZ (.slice A seen.length c) seen :: G0))
    (hstep : ∀ i g x G A, i < opts.length → J i x G → ∃ fn caps, opts[i]? = some (optV fn caps) ∧ Bodied Tryz.prog fn ∧ SC Tryz.prog fn (.pointer (some ⟨g, 0, none⟩) :: caps) b (pt g t_api_Letter (ltC x) :: (G ++ (A :: F))) (fun _ F' => ∃ x' G', J (i + 1) x' G' ∧ F' = pt g t_api_Letter (ltC x') :: (G' ++ (A :: F))))
    (hend : ∀ x G, J opts.length x G → x.id.length = 32 ∧ x.sv.oneCell' = true ∧ x.ev.oneCell' = true ∧ x.bv.oneCell' = true) :
    SC Tryz.prog n_letter_made [.int .i64 k, .int .i64 f, .int .i64 t, vs, .slice (some ⟨gl, 0, none⟩) opts.length opts.length] b (G0 ++ F) (fun u F' => ∃ x G, J opts.length x G ∧ u = ltV x ∧ F' = G ++ F) := by
  refine enterS F_letter_made rfl rfl rfl ?_
  (refine sw_seq (sw_region ?_))
  refine so_new rfl rfl rfl rfl rfl fun g10 => ?_
  (refine so_nil (sn_then ?_); refine sw_seq (sw_region ?_); (iterate 4 refine so_1 rfl ?_))
  refine so_call rfl rfl rfl (Clone_ints (up hs (ent_keep 1 [] rfl rfl)) hl) ?_
  rintro sv _ rfl
  refine so_fact (fun w H => (H.oat (k := 0) rfl).form) ?_
  rintro ⟨A, c, rfl, _, _, _⟩
  (refine so_1 rfl ?_)
  refine so_new rfl rfl rfl rfl rfl fun g11 => ?_
  refine so_know 19 (ltV (ltM k f t (.slice A seen.length c) seen)) rfl rfl ?_
  have m32 : (ltM k f t (.slice A seen.length c) seen).id.length = 32 := rfl
  have ml := ltC_len m32
  have m1 := ltC_one (x := ltM k f t (.slice A seen.length c) seen) rfl rfl rfl
  refine so_stW 0 rfl rfl rfl rfl rfl rfl rfl ml m1 (by rw [ml]; rfl) ?_
  (refine so_nil (sn_then ?_); (iterate 2 refine sw_seq ?_); refine sw_region ?_; (iterate 3 refine so_1 rfl ?_); refine so_nil (sn_then ?_); refine sw_block ?_)
  refine sw_loop (S := Nat × Lt × List SP) (fun s => [(10, .pointer (some ⟨g10, 0, none⟩)), (11, .pointer (some ⟨g11, 0, none⟩)), (20, .slice (some ⟨gl, 0, none⟩) opts.length opts.length), (21, .int .i64 (opts.length : Int)), (22, .int .i64 (s.1 : Int))])
    (fun s => pt g11 t_api_Letter (ltC s.2.1) :: (s.2.2 ++ (pt g10 t_api_Letter (ltC ltZ) :: F))) (fun s => s.1 ≤ opts.length ∧ J s.1 s.2.1 s.2.2) (fun s => opts.length - s.1) (0, ltM k f t (.slice A seen.length c) seen, rZ (.slice A seen.length c) seen :: G0) ⟨rfl, rfl, rfl, rfl, rfl, trivial⟩ ?_ ⟨Nat.zero_le _, h0 _ _⟩ ?_
  · refine ent_perm (.cons _ ?_)
    show List.Perm (rZ (.slice A seen.length c) seen :: pt g10 t_api_Letter _ :: (G0 ++ F)) (rZ (.slice A seen.length c) seen :: (G0 ++ (pt g10 t_api_Letter (ltC ltZ) :: F)))
    exact .cons _ List.perm_middle.symm
  rintro ⟨i, x, G⟩ ⟨hi, hJ⟩
  dsimp only at hi hJ ⊢
  (refine sw_seq (sw_region ?_); refine so_1 rfl ?_; refine so_nil (sn_then ?_); refine sw_seq ?_)
  refine sw_if rfl (fun h5 => ?_) (fun h5 => ?_)
  · have h5' : i < opts.length := by omega
    obtain ⟨fn, caps, hv, hb, hsc⟩ := hstep i g11 x G (pt g10 t_api_Letter (ltC ltZ)) h5' hJ
    have hqn : ∀ {X : SP}, nth (X :: (G ++ (pt g10 t_api_Letter (ltC ltZ) :: F))) (G.length + 2 + q) = some (pt gl t_letter_option opts) := fun {X} => by
      show nth (X :: (G ++ (pt g10 t_api_Letter (ltC ltZ) :: F))) (G.length + 2 + q) = _
      rw [show G.length + 2 + q = (G.length + (q + 1)) + 1 by omega]
      show nth (G ++ (pt g10 t_api_Letter (ltC ltZ) :: F)) (G.length + (q + 1)) = _
      rw [nth_append, if_neg (by omega), show G.length + (q + 1) - G.length = q + 1 by omega]
      exact hq
    (refine sw_skip ?_; refine sn_then ?_; refine sw_seq ?_; refine sw_block ?_; refine sw_seq (sw_region ?_); refine so_2 rfl (by omega) ?_)
    refine so_rd rfl (fun w H => ex_load rfl rfl rfl (by rw [mulz_eq, Int.toNat_natCast, Nat.mul_one]; rw [(H.blk hqn).cell]; simpa using hv)) rfl ?_
    (refine so_1 rfl ?_; refine so_nil (sn_then ?_); refine sw_region ?_; refine so_1 rfl ?_)
    refine so_call rfl rfl rfl hsc ?_
    rintro _ _ ⟨x', G', hJ', rfl⟩
    (refine so_nil ?_; refine sn_block ?_; refine sn_then ?_; refine sw_region ?_; refine so_2 rfl (by (unfold I64; omega)) ?_; refine so_1 rfl ?_; refine so_nil ?_)
    rw [show (i : Int) + 1 = ((i + 1 : Nat) : Int) by omega]
    exact sn_round (i + 1, x', G') ⟨rfl, rfl, rfl, rfl, rfl, trivial⟩ (Ent.refl _) ⟨h5', hJ'⟩ (by dsimp only; omega)
  obtain rfl : i = opts.length := by omega
  obtain ⟨e1, e2, e3, e4⟩ := hend x G hJ
  have xl := ltC_len e1
  have x1 := ltC_one e2 e3 e4
  refine sw_ent (G := pt g11 t_api_Letter (ltC x) :: pt g10 t_api_Letter (ltC ltZ) :: (G ++ F)) (ent_perm (.cons _ List.perm_middle)) ?_
  (refine sw_exit ?_; refine sn_then_exit ?_; refine sn_loop_exit ?_; refine sn_block_exit ?_; refine sn_then ?_; refine sw_seq (sw_region ?_))
  refine so_ldA 0 rfl rfl rfl rfl rfl rfl (segO_all (by rw [xl]; rfl)) rfl ?_
  refine so_stW 1 rfl rfl rfl rfl rfl rfl rfl xl x1 (by rw [xl]; rfl) ?_
  (refine so_nil (sn_then ?_); refine sw_ret ?_)
  refine sn_ret rfl (.whole 1 rfl rfl rfl rfl (by rw [xl]; rfl) .nil) (ent_keep 2 [] rfl rfl) ?_
  exact ⟨x, G, hJ, rfl, rfl⟩
end
end Go.Proofs.YtmeiadgpglpelaaGreat
/- Letters: the program's Note and Ship, on. Conditions: not too much. -/
namespace Go.Proofs.YtmeiadgpglpelaaGreat
open Go Go.Eng Go.RowKit

/-- How a Note stands behind its options. -/
def JN (ge : Nat) (e : Ev) (to' : Int) (seen : List Int) : Nat → Lt → List SP → Prop
  | 0, x, G => ∃ A c, x = ltM 1 e.r to' (.slice A seen.length c) seen ∧ G = [rZ (.slice A seen.length c) seen, pt ge t_api_Event (evC e)]
  | _ + 1, x, G => ∃ A c dv rv gs, x = { ltM 1 e.r to' (.slice A seen.length c) seen with ev := .slice (some ⟨gs, 0, none⟩) 1 1, evs := [e.own dv rv] } ∧
      G = [pt ge t_api_Event (evC (e.own dv rv)), rEs (.slice (some ⟨gs, 0, none⟩) 1 1) [e.own dv rv], all (evF [e.own dv rv]), rZ (.slice A seen.length c) seen]
/-- How a Ship stands behind its options. -/
def JS (gd gi gb : Nat) (a : Lt) (vb : Value) (bs seen : List Int) : Nat → Lt → List SP → Prop
  | 0, x, G => ∃ A c, x = ltM 5 a.to' a.from' (.slice A seen.length c) seen ∧ G = [rZ (.slice A seen.length c) seen]
  | 1, x, G => ∃ A c, x = { ltM 5 a.to' a.from' (.slice A seen.length c) seen with r := a.r, n := a.n, id := a.id } ∧ G = [rZ (.slice A seen.length c) seen]
  | _ + 2, x, G => ∃ A c A2 c2, x = { ltM 5 a.to' a.from' (.slice A seen.length c) seen with r := a.r, n := a.n, id := a.id, bv := .slice A2 bs.length c2, bs := bs } ∧ G = [rB (.slice A2 bs.length c2) bs, rZ (.slice A seen.length c) seen]
section
variable {b : World} {F : List SP}
set_option maxRecDepth 20000 in
set_option maxHeartbeats 400000 in
theorem Note_S {e : Ev} {to' : Int} {vs : Value} {seen : List Int} (h32 : e.id.length = 32) (he : ∀ w, Sat b F w → ER w e) (hd : e.deps.length ≤ 1000000) (hr : e.refs.length ≤ 1000000) (hs : ∀ w, Sat b F w → VL (Value.int .i64) w vs seen) (hl : seen.length ≤ 1000000) :
    SC Tryz.prog n_letter_Note [evV e, .int .i64 to', vs] b F (fun u F' => ∃ y : Lt, nL y = nL (noteL e to' seen) ∧ u = ltV y ∧ F' = ltP y ++ F) := by
  refine enterS F_letter_Note rfl rfl rfl ?_
  have xl := evC_len h32
  (refine sw_seq (sw_region ?_))
  refine so_box rfl rfl rfl rfl rfl fun g3 => ?_
  refine so_new rfl rfl rfl rfl rfl fun g6 => ?_
  (refine so_nil (sn_then ?_); refine sw_seq ?_)
  refine sw_draw flo (pt g3 t_api_Event (evC e) :: F) (by decide +kernel) (ent_keep 2 [1] rfl rfl) ?_
  ((iterate 2 refine sd_1 rfl (.inl rfl) ?_); refine sd_l 0 rfl rfl rfl rfl ?_; (iterate 2 refine sd_1 rfl (.inl rfl) ?_))
  refine sd_ldA 0 rfl rfl rfl rfl rfl rfl (segO_all (by rw [xl]; rfl)) rfl rfl ?_
  refine sd_call rfl rfl rfl rfl of_S ?_
  rintro _ _ ⟨ge, rfl, rfl⟩
  refine ⟨ent_keep 3 [2] rfl rfl, ?_⟩
  refine sd_lit [optV n_letter_of_1 [.pointer (some ⟨ge, 0, none⟩)]] rfl rfl rfl rfl rfl rfl rfl rfl rfl rfl (ent_keep 3 [2] rfl rfl) fun gl => ?_
  refine sd_ent (ent_keep 2 [1, 0] rfl rfl) ?_
  have hm := made_S (b := b) (k := 1) (f := e.r) (t := to') (vs := vs) (seen := seen) (gl := gl) (opts := [optV n_letter_of_1 [.pointer (some ⟨ge, 0, none⟩)]]) (F := pt gl t_letter_option [optV n_letter_of_1 [.pointer (some ⟨ge, 0, none⟩)]] :: pt g6 t_api_Letter (ltC ltZ) :: pt g3 t_api_Event (evC e) :: F) (G0 := [pt ge t_api_Event (evC e)]) (q := 0) (JN ge e to' seen) (up hs (ent_keep 4 [] rfl rfl)) hl rfl (Nat.le_of_ble_eq_true rfl) (fun A c => ⟨A, c, rfl, rfl⟩) ?_ ?_
  rotate_left
  · rintro i g x G A hi hJ
    obtain rfl : i = 0 := by simp at hi; omega
    obtain ⟨A1, c1, rfl, rfl⟩ := hJ
    refine ⟨n_letter_of_1, [.pointer (some ⟨ge, 0, none⟩)], rfl, inferInstance, ?_⟩
    refine ((of1_S (F := rZ (.slice A1 seen.length c1) seen :: A :: pt gl t_letter_option [optV n_letter_of_1 [.pointer (some ⟨ge, 0, none⟩)]] :: pt g6 t_api_Letter (ltC ltZ) :: pt g3 t_api_Event (evC e) :: F) h32 (up he (ent_keep 5 [] rfl rfl)) hd hr).ent (ent_keep 3 [0, 2, 1] rfl rfl)).mono ?_
    rintro _ _ ⟨dv, rv, gs, rfl⟩
    exact ⟨_, _, ⟨A1, c1, dv, rv, gs, rfl, rfl⟩, rfl⟩
  · rintro x G ⟨A1, c1, dv, rv, gs, rfl, rfl⟩
    exact ⟨rfl, rfl, rfl, rfl⟩
  refine sd_call rfl rfl rfl rfl hm ?_
  rintro _ _ ⟨x, G, ⟨A1, c1, dv, rv, gs, hx, rfl⟩, rfl, rfl⟩
  refine ⟨ent_keep 7 [6] rfl rfl, ?_⟩
  have y32 : x.id.length = 32 := by rw [hx]; rfl
  have yl := ltC_len y32
  have y1 := ltC_one (x := x) (by rw [hx]; rfl) (by rw [hx]; rfl) (by rw [hx]; rfl)
  refine sd_stW (vs := ltC x) 5 rfl rfl rfl rfl rfl rfl rfl rfl yl y1 (by rw [yl]; rfl) (ent_keep 7 [6] rfl rfl) ?_
  refine sd_nil ?_
  (refine sn_then ?_; refine sw_ret ?_)
  refine sn_ret rfl (.whole 5 rfl rfl rfl rfl (by rw [yl]; rfl) .nil) ((ent_keep 7 [3, 1, 2] rfl rfl).trans ((ent_row_nil t_uint8 1 rfl).trans (ent_keep 4 [1, 2, 3, 0] rfl rfl))) ?_
  refine ⟨x, ?_, rfl, ?_⟩
  · rw [hx]; rfl
  · rw [hx]; rfl
set_option maxRecDepth 20000 in
set_option maxHeartbeats 400000 in
theorem Ship_S {a : Lt} {vb vs : Value} {bs seen : List Int} (h32 : a.id.length = 32) (hb : ∀ w, Sat b F w → VL (Value.int .u8) w vb bs) (hbl : bs.length ≤ 1000000) (hs : ∀ w, Sat b F w → VL (Value.int .i64) w vs seen) (hl : seen.length ≤ 1000000) :
    SC Tryz.prog n_letter_Ship [ltV a, vb, vs] b F (fun u F' => ∃ y : Lt, nL y = nL (shipL a bs seen) ∧ u = ltV y ∧ F' = ltP y ++ F) := by
  refine enterS F_letter_Ship rfl rfl rfl ?_
  refine sw_fact (fun w H => (hb w H).form) ?_
  rintro ⟨Ab, cb, rfl, _, _, _, _⟩
  (refine sw_seq (sw_region ?_))
  refine so_box rfl rfl rfl rfl rfl fun g3 => ?_
  refine so_new rfl rfl rfl rfl rfl fun g6 => ?_
  (refine so_nil (sn_then ?_); refine sw_seq ?_)
  refine sw_draw flo (pt g3 t_api_Letter (ltC a) :: F) (by decide +kernel) (ent_keep 2 [1] rfl rfl) ?_
  (refine sd_1 rfl (.inl rfl) ?_; refine sd_l 0 rfl rfl rfl rfl ?_; refine sd_1 rfl (.inl rfl) ?_; refine sd_l 0 rfl rfl rfl rfl ?_; (iterate 2 refine sd_1 rfl (.inl rfl) ?_))
  refine sd_ldA 0 rfl rfl rfl rfl rfl rfl ltC_dot rfl rfl ?_
  (refine sd_1 rfl (.inl rfl) ?_)
  refine sd_ldA 0 rfl rfl rfl rfl rfl rfl (ltC_id h32) rfl rfl ?_
  refine sd_call rfl rfl rfl rfl about_S ?_
  rintro _ _ ⟨gd, gi, rfl, rfl⟩
  refine ⟨ent_keep 4 [3] rfl rfl, ?_⟩
  (refine sd_1 rfl (.inl rfl) ?_)
  refine sd_call rfl rfl rfl rfl with_S ?_
  rintro _ _ ⟨gb, rfl, rfl⟩
  refine ⟨ent_keep 5 [4] rfl rfl, ?_⟩
  refine sd_lit [optV n_letter_about_1 [.pointer (some ⟨gd, 0, none⟩), .pointer (some ⟨gi, 0, none⟩)], optV n_letter_with_1 [.pointer (some ⟨gb, 0, none⟩)]] rfl rfl rfl rfl rfl rfl rfl rfl rfl rfl (ent_keep 5 [4] rfl rfl) fun gl => ?_
  refine sd_call rfl rfl rfl rfl (made_S (G0 := []) (opts := [optV n_letter_about_1 [.pointer (some ⟨gd, 0, none⟩), .pointer (some ⟨gi, 0, none⟩)], optV n_letter_with_1 [.pointer (some ⟨gb, 0, none⟩)]]) (q := 0) (JS gd gi gb a (.slice Ab bs.length cb) bs seen) (up hs (ent_keep 6 [] rfl rfl)) hl rfl (Nat.le_of_ble_eq_true rfl) (fun A c => ⟨A, c, rfl, rfl⟩) ?_ ?_) ?_
  · rintro i g x G A hi hJ
    match i, hi, hJ with
    | 0, _, ⟨A1, c1, hx, hG⟩ =>
      subst hx; subst hG
      refine ⟨n_letter_about_1, _, rfl, inferInstance, ?_⟩
      refine SC.mono (about1_S (jd := 5) (ji := 4) rfl h32 rfl rfl) ?_
      rintro _ _ rfl
      exact ⟨_, _, ⟨A1, c1, rfl, rfl⟩, rfl⟩
    | 1, _, ⟨A1, c1, hx, hG⟩ =>
      subst hx; subst hG
      refine ⟨n_letter_with_1, _, rfl, inferInstance, ?_⟩
      refine SC.mono (with1_S (jb := 3) h32 rfl (up hb (ent_keep 8 [] rfl rfl)) hbl) ?_
      rintro _ _ ⟨A2, c2, rfl⟩
      exact ⟨_, _, ⟨A1, c1, A2, c2, rfl, rfl⟩, rfl⟩
    | i + 2, hi, _ => simp at hi; omega
  · rintro x G ⟨A1, c1, A2, c2, rfl, rfl⟩
    exact ⟨h32, rfl, rfl, rfl⟩
  rintro _ _ ⟨x, G, ⟨A1, c1, A2, c2, hx, rfl⟩, rfl, rfl⟩
  refine ⟨ent_keep 8 [7] rfl rfl, ?_⟩
  have y32 : x.id.length = 32 := by rw [hx]; exact h32
  have yl := ltC_len y32
  have y1 := ltC_one (x := x) (by rw [hx]; rfl) (by rw [hx]; rfl) (by rw [hx]; rfl)
  refine sd_stW (vs := ltC x) 6 rfl rfl rfl rfl rfl rfl rfl rfl yl y1 (by rw [yl]; rfl) (ent_keep 8 [7] rfl rfl) ?_
  refine sd_nil ?_
  (refine sn_then ?_; refine sw_ret ?_)
  refine sn_ret rfl (.whole 6 rfl rfl rfl rfl (by rw [yl]; rfl) .nil) ((ent_keep 8 [1, 0] rfl rfl).trans (((ent_close (G := [])).trans (ent_row_nil t_api_Event 39 rfl)).trans (ent_keep 4 [2, 0, 1, 3] rfl rfl))) ?_
  refine ⟨x, ?_, rfl, ?_⟩
  · rw [hx]; rfl
  · rw [hx]; rfl
end
end Go.Proofs.YtmeiadgpglpelaaGreat
/- Letters: the laws' own letters. Conditions: none. -/
namespace Go.Proofs.YtmeiadgpglpelaaGreat
open Go Go.Eng Go.RowKit

/-! ## What is told plain is told of all that say the same -/
theorem giveT_nE (n w : Int) (p : Option Ev) (l : List Ev) : giveT n w (p.map nE) (l.map nE) = giveT n w p l := by
  induction l generalizing p with
  | nil => cases p <;> rfl
  | cons e l ih =>
    have h1 : chkE (nE e) n w = chkE e n w := rfl
    have h2 : lateB (p.map nE) (nE e) = lateB p e := by cases p <;> rfl
    rw [List.map_cons, giveT_cons, giveT_cons, h1, h2, ← ih (some e)]
    rfl
theorem firstC_nE (n w : Int) (l : List Ev) : firstC n w (l.map nE) = firstC n w l := by cases l <;> rfl
theorem firstE_nE (l : List Ev) : firstE (l.map nE) = firstE l := by
  induction l with
  | nil => rfl
  | cons e l ih =>
    have h1 : encE (nE e) = encE e := rfl
    rw [List.map_cons, firstE, firstE, ih, h1]
section
variable {x y : Lt}
theorem chkT_nL (h : nL y = nL x) (n w : Int) : chkT y n w = chkT x n w := by
  obtain ⟨k, f, t, sv2, sn, ev2, evs2, r, n2, id, bv2, bs⟩ := y
  simp only [nL, Lt.mk.injEq] at h
  obtain ⟨rfl, rfl, rfl, _, rfl, _, hevs, rfl, rfl, rfl, _, rfl⟩ := h
  have hl : evs2.length = x.evs.length := by have := congrArg List.length hevs; rwa [List.length_map, List.length_map] at this
  have h1 : firstC n w evs2 = firstC n w x.evs := by rw [← firstC_nE, hevs, firstC_nE]
  have h2 : giveT n w none evs2 = giveT n w none x.evs := by rw [← giveT_nE n w none evs2, hevs, giveT_nE]
  unfold chkT kindT
  dsimp only
  rw [hl, h1, h2]
  rfl
theorem encT_nL (h : nL y = nL x) : encT y = encT x := by
  obtain ⟨k, f, t, sv2, sn, ev2, evs2, r, n2, id, bv2, bs⟩ := y
  simp only [nL, Lt.mk.injEq] at h
  obtain ⟨rfl, rfl, rfl, _, rfl, _, hevs, rfl, rfl, rfl, _, rfl⟩ := h
  have hl : evs2.length = x.evs.length := by have := congrArg List.length hevs; rwa [List.length_map, List.length_map] at this
  have h1 : firstE evs2 = firstE x.evs := by rw [← firstE_nE, hevs, firstE_nE]
  have h2 : (evs2.map fun e => pBytes (encE e).1) = x.evs.map fun e => pBytes (encE e).1 := by
    have e1 : ∀ l : List Ev, (l.map fun e => pBytes (encE e).1) = (l.map nE).map fun e => pBytes (encE e).1 := fun l => by rw [List.map_map]; rfl
    rw [e1 evs2, hevs, ← e1]
  unfold encT encTL encTH
  dsimp only
  rw [hl, h1, h2]
theorem ev_nE {P : Ev → Prop} (hP : ∀ e f : Ev, nE e = nE f → P f → P e) {l m : List Ev} (h : l.map nE = m.map nE) (hm : ∀ e ∈ m, P e) : ∀ e ∈ l, P e := fun e he => by
  have : nE e ∈ m.map nE := by rw [← h]; exact List.mem_map_of_mem he
  obtain ⟨f, hf, hfe⟩ := List.mem_map.1 this
  exact hP e f hfe.symm (hm f hf)
theorem ew_nE (e f : Ev) (h : nE e = nE f) (hf : EW f) : EW e := by
  obtain ⟨dv, rv, rfl⟩ := nE_eq h.symm
  exact hf.own dv rv
theorem evl_nE (e f : Ev) (h : nE e = nE f) (hf : EvL f) : EvL e := by
  obtain ⟨dv, rv, rfl⟩ := nE_eq h.symm
  exact ⟨hf.dn, hf.rn, hf.ps, hf.ts⟩
theorem same_nE (e f : Ev) (h : nE e = nE f) (hf : f.id.length = 32 ∧ len32 f.refs ∧ f.refs.length ≤ 1000000) : e.id.length = 32 ∧ len32 e.refs ∧ e.refs.length ≤ 1000000 := by
  obtain ⟨dv, rv, rfl⟩ := nE_eq h.symm
  exact hf
theorem flat_ok {l : List (List Int)} (h : ∀ x ∈ l, byteOk x) : byteOk l.flatten := by
  induction l with
  | nil => exact .nil
  | cons x l ih => rw [List.flatten_cons]; exact (h x List.mem_cons_self).app (ih fun y hy => h y (List.mem_cons_of_mem _ hy))
theorem idOk_b {x : List Int} (hx : idOk x) : byteOk x := fun y hy => by
  have := hx.2 y hy
  simp [Lit.wf, IntKind.min, IntKind.max, IntKind.signed, IntKind.bits] at this
  omega
theorem encT_bytes {x : Lt} (h : LW x) : byteOk (encT x).1 := by
  by_cases he : (encT x).2 = 0
  · rw [(encT_ok he).2.2.1]
    unfold ltB
    exact (numB_ok _).app ((numB_ok _).app ((numB_ok _).app (((numB_ok _).app (flat_ok (fun y hy => by obtain ⟨z, _, rfl⟩ := List.mem_map.1 hy; exact numB_ok z))).app ((numB_ok _).app ((flat_ok (fun y hy => by obtain ⟨z, hz, rfl⟩ := List.mem_map.1 hy; exact (numB_ok _).app (enc_bytes (h.evs z hz)))).app (((numB_ok _).app (numB_ok _)).app ((idOk_b h.id).app ((numB_ok _).app h.bs))))))))
  · rw [encT_bad he]; exact .nil
theorem nL_evs (h : nL y = nL x) : y.evs.map nE = x.evs.map nE := (congrArg Lt.evs h : (nL y).evs = (nL x).evs)
theorem nL_seen (h : nL y = nL x) : y.seen = x.seen := (congrArg Lt.seen h : (nL y).seen = (nL x).seen)
theorem nL_bs (h : nL y = nL x) : y.bs = x.bs := (congrArg Lt.bs h : (nL y).bs = (nL x).bs)
theorem lw_nL (h : nL y = nL x) (hw : LW x) : LW y := by
  have he := ev_nE ew_nE (nL_evs h) hw.evs
  obtain ⟨k, f, t, sv2, sn, ev2, evs2, r, n2, id, bv2, bs⟩ := y
  simp only [nL, Lt.mk.injEq] at h
  obtain ⟨rfl, rfl, rfl, _, rfl, _, hevs, rfl, rfl, rfl, _, rfl⟩ := h
  exact ⟨hw.kind, hw.from', hw.to', hw.seen, he, hw.dot, hw.id, hw.bs⟩
/-- A letter that is not too long for the program's functions. -/
structure LtL (x : Lt) : Prop where
  seen : x.seen.length ≤ 1000000
  bs : x.bs.length ≤ 1000000
  ev : ∀ e ∈ x.evs, EvL e
theorem ltl_nL (h : nL y = nL x) (hl : LtL x) : LtL y := ⟨by rw [nL_seen h]; exact hl.seen, by rw [nL_bs h]; exact hl.bs, ev_nE evl_nE (nL_evs h) hl.ev⟩
end

/-! ## An own letter as one piece -/
abbrev lP (y : Lt) : SP := all (ltP y)
theorem lP_lr {b : World} {F : List SP} {k : Nat} {y : Lt} (hk : nth F k = some (lP y)) : ∀ w, Sat b F w → LR w y := fun w hS => by
  obtain ⟨h1, hl, hA⟩ := hS.mem.get hk
  have h2 : Sat b (ltP y) w := ⟨hS.os, hS.tape, hS.output, SatH.mono hA hl⟩
  exact lt_rows (j1 := 0) (j2 := 1) (j3 := 2) (j4 := 3) rfl rfl rfl rfl w h2
/-! ## The chapter's digest -/
structure IdX (id : List Int) : Prop where
  ok : idOk id
  h32 : hasM id 32 = true
  h1 : hasM id 1 = false
  own : cutR (sumM [120]) 32 = id
  other : cutR (sumM [121]) 32 ≠ id
def sha120 : List Int := sumM [120]
theorem sha120_x : IdX sha120 := by
  have h : (sumM [120]).length = 32 ∧ (sumM [120]).all (fun x => (Lit.int .u8 x).wf) = true ∧ hasM (sumM [120]) 32 = true ∧ hasM (sumM [120]) 1 = false ∧ cutR (sumM [120]) 32 = sumM [120] ∧ cutR (sumM [121]) 32 ≠ sumM [120] := by decide +kernel
  exact ⟨⟨h.1, fun x hx => List.all_eq_true.1 h.2.1 x hx⟩, h.2.2.1, h.2.2.2.1, h.2.2.2.2.1, h.2.2.2.2.2⟩
/-- The chapter's event; its Need. -/
def oneX (id : List Int) : Ev := ⟨1, 1, nS, [0, 0], 1, ⟨#[114]⟩, ⟨#[]⟩, id, nS, [id]⟩
def needX (id : List Int) : Lt := ⟨4, 2, 1, nS, [0, 0], nS, [], 1, 1, id, nS, []⟩
theorem chkE_oneX {id : List Int} (h : hasM id 32 = true) : chkE (oneX id) 2 32 = 0 := by
  have e1 : placedB (oneX id) 2 = true := rfl
  have e2 : repoF (strI (oneX id).repo) = (0, 0) := repo_r
  have e3 : tagE (oneX id) = 0 := rfl
  have e4 : idE (oneX id) 32 = 0 := by
    show (if (1 : Int) = 4 then _ else if hasM id 32 = true then (0 : Int) else 8) = 0
    rw [h]; rfl
  have e5 : refsE (oneX id) true 32 = 0 := by
    unfold refsE
    rw [if_neg (by simp), if_neg (by simp [oneX, riseB]), if_pos (by simp [oneX, h])]
  unfold chkE
  rw [if_neg (by decide), if_neg (by rw [e1]; simp), if_neg (by simp [oneX]), if_neg (by rw [e2]; simp), if_neg (by rw [e3]; simp), if_neg (by rw [e4]; simp)]
  exact e5
theorem oneX_ew {id : List Int} (h : idOk id) : EW (oneX id) :=
  small_ew h (by show (0 : Int) ≤ 1 ∧ (1 : Int) ≤ 100; decide) (by show (0 : Int) ≤ 1 ∧ (1 : Int) ≤ 100; decide) (by show (0 : Int) ≤ 1 ∧ (1 : Int) ≤ 100; decide) (by show ∀ x ∈ [(0 : Int), 0], 0 ≤ x ∧ x ≤ 100; decide) (fun x hx => by rw [List.mem_singleton.1 hx]; exact h) (by show (1 : Nat) ≤ 100; decide) (by show (0 : Nat) ≤ 100; decide)
theorem oneX_l (id : List Int) : EvL (oneX id) := ⟨by simp [oneX], by simp [oneX], by show (1 : Nat) ≤ _; decide, by show (0 : Nat) ≤ _; decide⟩
theorem small_lw {x : Lt} (h : idOk x.id) (hk : 0 ≤ x.kind ∧ x.kind ≤ 100) (hf : 0 ≤ x.from' ∧ x.from' ≤ 100) (ht : 0 ≤ x.to' ∧ x.to' ≤ 100) (hs : ∀ y ∈ x.seen, 0 ≤ y ∧ y ≤ 100) (hr : 0 ≤ x.r ∧ x.r ≤ 100) (hn : 0 ≤ x.n ∧ x.n ≤ 100) (he : ∀ e ∈ x.evs, EW e) (hb : byteOk x.bs) : LW x :=
  ⟨⟨by omega, by omega⟩, ⟨by omega, by omega⟩, ⟨by omega, by omega⟩, fun y hy => ⟨by have := hs y hy; omega, by have := hs y hy; omega⟩, he, ⟨(i64wf _).2 ⟨by dsimp only; omega, by dsimp only; omega⟩, (i64wf _).2 ⟨by dsimp only; omega, by dsimp only; omega⟩⟩, h, hb⟩
section
variable {b : World} {F : List SP}
set_option maxRecDepth 20000 in
theorem oneX_S : SC Tryz.prog n_entrepotlaw25_one [] b F (fun v F' => ∃ dv rv, v = evV ((oneX sha120).own dv rv) ∧ F' = rZ dv [0, 0] :: rD rv [sha120] :: F) := by
  have h32 := sha120_x.ok.1
  have hOf : ∀ {F' : List SP} {vb : Value}, (∀ w, Sat b F' w → VL (Value.int .u8) w vb [120]) → SC Tryz.prog n_sha_Sum [vb] b F' (fun v G => v = idV sha120 ∧ G = F') := fun h => Sum_S (by decide) h
  generalize sha120 = id at h32 hOf ⊢
  refine enterS F_entrepotlaw25_one rfl rfl rfl ?_
  (refine sw_seq (sw_region ?_))
  refine so_new rfl rfl rfl rfl rfl fun g0 => ?_
  (refine so_nil (sn_then ?_); refine sw_seq (sw_region ?_))
  refine so_lit ([120].map (Value.int .u8)) rfl rfl rfl rfl rfl rfl rfl rfl rfl fun gl => ?_
  refine so_mark 0 rfl rfl rfl rfl rfl rfl rfl rfl ?_
  refine so_callE rfl rfl rfl (hOf (fun w H => H.ptz_vl (k := 0) rfl rfl (Nat.le_refl _) (by omega) (fun j hj => rfl))) ?_
  skip
  refine so_new rfl rfl rfl rfl rfl fun g1 => ?_
  refine so_stW 0 rfl rfl rfl rfl rfl rfl rfl (by rw [u8s_len, h32]; rfl) (u8s_one _) (by simp [h32]) ?_
  (refine so_nil (sn_then ?_); refine sw_seq (sw_region ?_); refine so_1 rfl ?_)
  refine so_lit (ints [0, 0]) rfl rfl rfl rfl rfl rfl rfl rfl rfl fun gd => ?_
  refine so_ldA 1 rfl rfl rfl rfl rfl rfl (segID h32) rfl ?_
  refine so_ldA 1 rfl rfl rfl rfl rfl rfl (segID h32) rfl ?_
  refine so_lit1 rfl rfl rfl rfl rfl rfl rfl (by rw [u8s_len, h32]; rfl) (by decide) fun gr => ?_
  refine so_B rfl rfl rfl ⟨rfl, rfl, rfl, rfl, (by show (u8s _).length = _; rw [u8s_len, h32]; rfl), rfl, trivial⟩ ?_
  have yl : (evC ((oneX id).own (.slice (some ⟨gd, 0, none⟩) 2 2) (.slice (some ⟨gr, 0, none⟩) 1 1))).length = 39 := evC_len h32
  have y1 := evC_one (e := (oneX id).own (.slice (some ⟨gd, 0, none⟩) 2 2) (.slice (some ⟨gr, 0, none⟩) 1 1)) rfl rfl
  refine so_know 10 (evV ((oneX id).own (.slice (some ⟨gd, 0, none⟩) 2 2) (.slice (some ⟨gr, 0, none⟩) 1 1))) rfl rfl ?_
  generalize hx : (oneX id).own (.slice (some ⟨gd, 0, none⟩) 2 2) (.slice (some ⟨gr, 0, none⟩) 1 1) = x at yl y1 ⊢
  refine so_stW 4 rfl rfl rfl rfl rfl rfl rfl yl y1 (by rw [yl]; rfl) ?_
  (refine so_nil (sn_then ?_); refine sw_ret ?_)
  refine sn_ret rfl (.whole 4 rfl rfl rfl rfl (by rw [yl]; rfl) .nil) ((ent_blk_row (t := t_api_ID) (sz := 32) (n := 1) (v := .slice (some ⟨gr, 0, none⟩) 1 1) rfl (by rw [u8s_len, h32]) (by decide) 0 rfl rfl).trans ((ent_rDi (l := [id]) 0 rfl rfl (by simp [idsC]) rfl).trans ((ent_blk_row (t := t_int) (sz := 1) (n := 2) (v := .slice (some ⟨gd, 0, none⟩) 2 2) rfl rfl (by decide) 1 rfl rfl).trans (ent_keep 5 [1, 0] rfl rfl)))) ?_
  exact ⟨.slice (some ⟨gd, 0, none⟩) 2 2, .slice (some ⟨gr, 0, none⟩) 1 1, by rw [hx]; rfl, rfl⟩
set_option maxRecDepth 20000 in
theorem needX_S : SC Tryz.prog n_entrepotlaw25_need [] b F (fun v F' => ∃ y : Lt, nL y = nL (needX sha120) ∧ v = ltV y ∧ F' = lP y :: F) := by
  have h32 := sha120_x.ok.1
  have hOf : ∀ {F' : List SP} {vb : Value}, (∀ w, Sat b F' w → VL (Value.int .u8) w vb [120]) → SC Tryz.prog n_sha_Sum [vb] b F' (fun v G => v = idV sha120 ∧ G = F') := fun h => Sum_S (by decide) h
  generalize sha120 = id at h32 hOf ⊢
  refine enterS F_entrepotlaw25_need rfl rfl rfl ?_
  (refine sw_seq (sw_region ?_))
  refine so_new rfl rfl rfl rfl rfl fun g0 => ?_
  (refine so_nil (sn_then ?_); refine sw_seq (sw_region ?_))
  refine so_lit (ints [0, 0]) rfl rfl rfl rfl rfl rfl rfl rfl rfl fun gd => ?_
  (refine so_1 rfl ?_)
  refine so_lit ([120].map (Value.int .u8)) rfl rfl rfl rfl rfl rfl rfl rfl rfl fun gl => ?_
  refine so_mark 0 rfl rfl rfl rfl rfl rfl rfl rfl ?_
  refine so_callE rfl rfl rfl (hOf (fun w H => H.ptz_vl (k := 0) rfl rfl (Nat.le_refl _) (by omega) (fun j hj => rfl))) ?_
  skip
  refine so_B rfl rfl rfl ⟨rfl, rfl, rfl, rfl, rfl, (by show (u8s _).length = _; rw [u8s_len, h32]; rfl), trivial⟩ ?_
  have hx : ∃ x : Lt, x = { needX id with sv := .slice (some ⟨gd, 0, none⟩) 2 2 } := ⟨_, rfl⟩
  obtain ⟨x, hx⟩ := hx
  have yl : (ltC x).length = 40 := ltC_len (by rw [hx]; exact h32)
  have y1 := ltC_one (x := x) (by rw [hx]; rfl) (by rw [hx]; rfl) (by rw [hx]; rfl)
  refine so_know 6 (ltV x) rfl (by rw [hx]; rfl) ?_
  refine so_stW 2 rfl rfl rfl rfl rfl rfl rfl yl y1 (by rw [yl]; rfl) ?_
  (refine so_nil (sn_then ?_); refine sw_ret ?_)
  refine sn_ret rfl (.whole 2 rfl rfl rfl rfl (by rw [yl]; rfl) .nil) ((ent_blk_row (t := t_int) (sz := 1) (n := 2) (v := .slice (some ⟨gd, 0, none⟩) 2 2) rfl rfl (by decide) 1 rfl rfl).trans ((ent_keep 3 [1] rfl rfl).trans ((ent_row_nil t_uint8 1 rfl).trans (((ent_close (G := [])).trans (ent_row_nil t_api_Event 39 rfl)).trans ((ent_keep 4 [3, 0, 1, 2] rfl rfl).trans (ent_close (G := [rZ (.slice (some ⟨gd, 0, none⟩) 2 2) [0, 0], rEs nS [], all [], rB nS []]))))))) ?_
  exact ⟨x, by rw [hx]; rfl, rfl, by rw [hx]; rfl⟩
theorem checks_S {x : Lt} {want : Int} (hx : ∀ w, Sat b F w → LR w x) (hw : LW x) (hl : LtL x) : SC Tryz.prog n_entrepotlaw25_checks [ltV x, .int .i64 want] b F (fun v F' => v = .bool (decide (chkT x 2 32 = want)) ∧ F' = F) := by
  have xl := ltC_len hw.id.1
  refine enterS F_entrepotlaw25_checks rfl rfl rfl ?_
  (refine sw_seq (sw_region ?_))
  refine so_box rfl rfl rfl rfl rfl fun g2 => ?_
  (refine so_1 rfl ?_; refine so_nil (sn_then ?_); refine sw_seq (sw_region ?_))
  refine so_ldA 0 rfl rfl rfl rfl rfl rfl (segO_all (by rw [xl]; rfl)) rfl ?_
  refine so_callE rfl rfl rfl (CheckT_S (up hx (ent_keep 1 [] rfl rfl)) hw hl.ev hl.seen hl.bs) ?_
  ((iterate 3 refine so_1 rfl ?_); refine so_nil (sn_then ?_); refine sw_ret ?_)
  refine sn_ret rfl (.tmp rfl .nil) (ent_keep 1 [] rfl rfl) ?_
  exact ⟨rfl, rfl⟩
end
end Go.Proofs.YtmeiadgpglpelaaGreat
/- Letters: the chapter's examples (awake, LetterKnown). Conditions: none. -/
namespace Go.Proofs.YtmeiadgpglpelaaGreat
open Go Go.Eng Go.RowKit

theorem chkT_ship {x : Lt} {n w : Int} (h1 : ¬ (n < 1 ∨ 16 < n ∨ w < 1 ∨ 32 < w)) (hk : x.kind = 5) (hh : headT x n = true) (he : x.evs.length = 0) : chkT x n w = if dotT x n w ≠ 0 then dotT x n w else if 4096 < x.bs.length then 4 else if cutR (sumM x.bs) w = x.id then 0 else 8 := by
  unfold chkT kindT
  rw [if_neg h1, if_neg (by rw [hh]; simp), if_neg (by omega), if_neg (by omega), if_neg (by omega), if_neg (by omega), if_neg (by omega), if_neg (by omega)]
theorem dotT_need {x : Lt} {id : List Int} (hr : x.r = 1) (hn : x.n = 1) (hi : x.id = id) (h : hasM id 32 = true) : dotT x 2 32 = 0 := by
  unfold dotT
  rw [hr, hn, hi, if_neg (by decide), if_pos h]
section
variable {id : List Int}
theorem chk_note (h : IdX id) : chkT (noteL (oneX id) 2 [1, 0]) 2 32 = 0 := by
  have : chkT (noteL (oneX id) 2 [1, 0]) 2 32 = chkE (oneX id) 2 32 := rfl
  rw [this]; exact chkE_oneX h.h32
theorem chk_need (h : IdX id) : chkT (needX id) 2 32 = 0 := by
  have : chkT (needX id) 2 32 = if hasM id 32 = true then 0 else 8 := rfl
  rw [this, if_pos h.h32]
theorem chk_shipX (h : IdX id) : chkT (shipL (needX id) [120] [1, 0]) 2 32 = 0 := by
  rw [chkT_ship (by decide) rfl rfl rfl, dotT_need (id := id) rfl rfl rfl h.h32, if_neg (by simp), if_neg (by show ¬ 4096 < [120].length; simp)]
  show (if cutR (sumM [120]) 32 = id then (0 : Int) else 8) = 0
  rw [if_pos h.own]
theorem idOk_zero : idOk (List.replicate 32 0) := ⟨rfl, fun x hx => by rw [(List.mem_replicate.1 hx).2]; decide⟩
theorem note_lw {e : Ev} {t : Int} {seen : List Int} (he : EW e) (hr : 0 ≤ e.r ∧ e.r ≤ 100) (ht : 0 ≤ t ∧ t ≤ 100) (hs : ∀ y ∈ seen, 0 ≤ y ∧ y ≤ 100) : LW (noteL e t seen) :=
  small_lw idOk_zero ⟨by show (0 : Int) ≤ 1; decide, by show (1 : Int) ≤ 100; decide⟩ hr ht hs ⟨by show (0 : Int) ≤ 0; decide, by show (0 : Int) ≤ 100; decide⟩ ⟨by show (0 : Int) ≤ 0; decide, by show (0 : Int) ≤ 100; decide⟩ (fun f hf => by rw [List.mem_singleton.1 hf]; exact he) (fun y hy => by cases hy)
theorem s10 : ∀ y ∈ [(1 : Int), 0], 0 ≤ y ∧ y ≤ 100 := by decide
theorem oneNote_lw (h : IdX id) : LW (noteL (oneX id) 2 [1, 0]) := note_lw (oneX_ew h.ok) (by show (0 : Int) ≤ 1 ∧ (1 : Int) ≤ 100; decide) (by decide) s10
theorem oneNote_l (id seen : List Int) (h : seen.length ≤ 1000000) : LtL (noteL (oneX id) 2 seen) := ⟨h, Nat.zero_le _, fun e he => by rw [List.mem_singleton.1 he]; exact oneX_l id⟩
theorem need_lw (h : IdX id) : LW (needX id) :=
  small_lw h.ok (by show (0 : Int) ≤ 4 ∧ (4 : Int) ≤ 100; decide) (by show (0 : Int) ≤ 2 ∧ (2 : Int) ≤ 100; decide) (by show (0 : Int) ≤ 1 ∧ (1 : Int) ≤ 100; decide) (by show ∀ y ∈ [(0 : Int), 0], 0 ≤ y ∧ y ≤ 100; decide) (by show (0 : Int) ≤ 1 ∧ (1 : Int) ≤ 100; decide) (by show (0 : Int) ≤ 1 ∧ (1 : Int) ≤ 100; decide) (fun e he => by cases he) (fun y hy => by cases hy)
theorem need_l (id : List Int) : LtL (needX id) := ⟨by show (2 : Nat) ≤ _; decide, Nat.zero_le _, fun e he => by cases he⟩
theorem ship_lw (h : IdX id) {c : Int} (hc : 0 ≤ c ∧ c < 256) : LW (shipL (needX id) [c] [1, 0]) :=
  small_lw h.ok (by show (0 : Int) ≤ 5 ∧ (5 : Int) ≤ 100; decide) (by show (0 : Int) ≤ 1 ∧ (1 : Int) ≤ 100; decide) (by show (0 : Int) ≤ 2 ∧ (2 : Int) ≤ 100; decide) s10 (by show (0 : Int) ≤ 1 ∧ (1 : Int) ≤ 100; decide) (by show (0 : Int) ≤ 1 ∧ (1 : Int) ≤ 100; decide) (fun e he => by cases he) (fun y hy => by rw [List.mem_singleton.1 hy]; exact hc)
theorem ship_l (id : List Int) (c : Int) : LtL (shipL (needX id) [c] [1, 0]) := ⟨by show (2 : Nat) ≤ _; decide, by show (1 : Nat) ≤ _; decide, fun e he => by cases he⟩
end
section
variable {b : World} {F : List SP}
set_option maxRecDepth 20000 in
set_option maxHeartbeats 8000000 in
theorem awake25_S : SC Tryz.prog n_entrepotlaw25_awake [] b F (fun v F' => v = .bool true ∧ F' = F) := by
  have hx0 := sha120_x
  have hone : ∀ {F' : List SP}, SC Tryz.prog n_entrepotlaw25_one [] b F' (fun v G => ∃ dv rv, v = evV ((oneX sha120).own dv rv) ∧ G = rZ dv [0, 0] :: rD rv [sha120] :: F') := oneX_S
  have hneed : ∀ {F' : List SP}, SC Tryz.prog n_entrepotlaw25_need [] b F' (fun v G => ∃ y : Lt, nL y = nL (needX sha120) ∧ v = ltV y ∧ G = lP y :: F') := needX_S
  generalize sha120 = id at hx0 hone hneed
  have h32 := hx0.ok.1
  have hnw := oneNote_lw hx0
  refine enterS F_entrepotlaw25_awake rfl rfl rfl ?_
  (refine sw_seq (sw_region ?_); refine so_1 rfl ?_; refine so_nil (sn_then ?_); refine sw_seq (sw_region ?_))
  refine so_call rfl rfl rfl (hone) ?_
  rintro _ _ ⟨dv1, rv1, rfl, rfl⟩
  refine so_lit (ints [1, 0]) rfl rfl rfl rfl rfl rfl rfl rfl rfl fun gl1 => ?_
  refine so_call rfl rfl rfl (Note_S (e := (oneX id).own dv1 rv1) (seen := [1, 0]) h32 (er_rows (e := oneX id) (j := 1) (k := 2) rfl rfl) (by show (2 : Nat) ≤ _; decide) (by show (1 : Nat) ≤ _; decide) (fun w H => (H.blk (k := 0) rfl).sl rfl (by decide)) (by decide)) ?_
  rintro _ _ ⟨y1, hy1, rfl, rfl⟩
  replace hy1 : nL y1 = nL (noteL (oneX id) 2 [1, 0]) := hy1
  refine so_ent ((ent_keep 7 [0, 1, 2, 3] rfl rfl).trans (ent_close (G := ltP y1))) ?_
  have y132 : y1.id.length = 32 := by rw [nL_id hy1]; rfl
  have y1l := ltC_len y132
  refine so_fact (fun w H => lr_form (lP_lr (y := y1) (k := 0) rfl w H)) ?_
  rintro ⟨y1a, y1b, y1c⟩
  have y11 := ltC_one y1a y1b y1c
  refine so_new rfl rfl rfl rfl rfl fun g1 => ?_
  refine so_stW 0 rfl rfl rfl rfl rfl rfl rfl y1l y11 (by rw [y1l]; rfl) ?_
  (refine so_nil (sn_then ?_); refine sw_seq (sw_region ?_))
  refine so_ldA 0 rfl rfl rfl rfl rfl rfl (segO_all (by rw [y1l]; rfl)) rfl ?_
  have hlw := lw_nL hy1 hnw
  have hll := ltl_nL hy1 (oneNote_l id [1, 0] (by decide))
  refine so_call rfl rfl rfl (EncodeT_S (lP_lr (y := y1) (k := 1) rfl) hlw hll.ev hll.seen hll.bs) ?_
  rintro _ _ ⟨rb, rfl, rfl⟩
  obtain ⟨he0, hB, hdec, _⟩ := chkT_enc (chk_note hx0) (fun e he => by rw [List.mem_singleton.1 he]; exact evN_of (oneX_ew hx0.ok)) rfl
  have hbyte := encT_bytes hnw
  rw [encT_nL hy1, he0]
  rw [hB] at hbyte ⊢
  have hlen := (encT_ok he0).2.2.2.1
  generalize ltB (noteL (oneX id) 2 [1, 0]) = B at hdec hbyte hlen ⊢
  ((iterate 5 refine so_1 rfl ?_); refine so_nil (sn_then ?_); refine sw_seq (sw_region ?_); refine so_1 rfl ?_)
  refine so_call rfl rfl rfl (DecodeT_S (vlB (l := B) (k := 0) rfl) (by omega) hbyte) ?_
  rintro _ _ ⟨z, hz, rfl, rfl⟩
  rw [hdec] at hz ⊢
  dsimp only at hz ⊢
  refine so_ent (ent_close (G := ltP z)) ?_
  have hz' : nL z = nL y1 := by rw [hz, hy1]
  have z32 : z.id.length = 32 := by rw [nL_id hz']; exact y132
  have zl := ltC_len z32
  refine so_fact (fun w H => lr_form (lP_lr (y := z) (k := 0) rfl w H)) ?_
  rintro ⟨za, zb, zc⟩
  have z1 := ltC_one za zb zc
  ((iterate 3 refine so_1 rfl ?_))
  refine so_new rfl rfl rfl rfl rfl fun g4 => ?_
  refine so_new rfl rfl rfl rfl rfl fun g5 => ?_
  refine so_stW 1 rfl rfl rfl rfl rfl rfl rfl zl z1 (by rw [zl]; rfl) ?_
  (refine so_s1 0 rfl rfl rfl rfl ?_; refine so_nil (sn_then ?_); refine sw_seq (sw_region ?_))
  refine so_ldA 4 rfl rfl rfl rfl rfl rfl (segO_all (by rw [y1l]; rfl)) rfl ?_
  refine so_callE rfl rfl rfl (checks_S (lP_lr (y := y1) (k := 5) rfl) hlw hll) ?_
  refine so_know 20 (.bool true) rfl (by rw [chkT_nL hy1, chk_note hx0]; rfl) ?_
  (refine so_1 rfl ?_)
  refine so_call rfl rfl rfl (hneed) ?_
  rintro _ _ ⟨n1, hn1, rfl, rfl⟩
  refine so_callE rfl rfl rfl (checks_S (lP_lr (y := n1) (k := 0) rfl) (lw_nL hn1 (need_lw hx0)) (ltl_nL hn1 (need_l id))) ?_
  refine so_know 23 (.bool true) rfl (by rw [chkT_nL hn1, chk_need hx0]; rfl) ?_
  ((iterate 2 refine so_1 rfl ?_))
  refine so_call rfl rfl rfl (hneed) ?_
  rintro _ _ ⟨n2, hn2, rfl, rfl⟩
  refine so_lit ([120].map (Value.int .u8)) rfl rfl rfl rfl rfl rfl rfl rfl rfl fun gxs1 => ?_
  refine so_mark 0 rfl rfl rfl rfl rfl rfl rfl rfl ?_
  refine so_lit (ints [1, 0]) rfl rfl rfl rfl rfl rfl rfl rfl rfl fun gzs1 => ?_
  refine so_call rfl rfl rfl (Ship_S (a := n2) (bs := [120]) (seen := [1, 0]) (by rw [nL_id hn2]; exact h32) (fun w H => H.ptz_vl (k := 1) rfl rfl (Nat.le_refl _) (by omega) (fun j hj => rfl)) (by decide) (fun w H => (H.blk (k := 0) rfl).sl rfl (by decide)) (by decide)) ?_
  rintro _ _ ⟨s1, hs1, rfl, rfl⟩
  have hs1 : nL s1 = nL (shipL (needX id) [120] [1, 0]) := by
    rw [hs1]
    have e1 : n2.to' = 1 := (congrArg Lt.to' hn2 : (nL n2).to' = (nL (needX id)).to')
    have e2 : n2.from' = 2 := (congrArg Lt.from' hn2 : (nL n2).from' = (nL (needX id)).from')
    have e3 : n2.r = 1 := (congrArg Lt.r hn2 : (nL n2).r = (nL (needX id)).r)
    have e4 : n2.n = 1 := (congrArg Lt.n hn2 : (nL n2).n = (nL (needX id)).n)
    have e5 : n2.id = id := nL_id hn2
    unfold shipL
    rw [e1, e2, e3, e4, e5]; rfl
  refine so_ent ((ent_keep 7 [0, 1, 2, 3] rfl rfl).trans (ent_close (G := ltP s1))) ?_
  skip
  refine so_callE rfl rfl rfl (checks_S (lP_lr (y := s1) (k := 0) rfl) (lw_nL hs1 (ship_lw hx0 (by decide))) (ltl_nL hs1 (ship_l id 120))) ?_
  refine so_know 31 (.bool true) rfl (by rw [chkT_nL hs1, chk_shipX hx0]; rfl) ?_
  ((iterate 6 refine so_1 rfl ?_); refine so_l 2 rfl rfl rfl ?_; refine so_1 rfl ?_)
  refine so_pu rfl (pu_eqA rfl rfl (eq_fault 0 0 0 0)) rfl ?_
  ((iterate 2 refine so_1 rfl ?_))
  refine so_ldA 6 rfl rfl rfl rfl rfl rfl (segO_all (by rw [y1l]; rfl)) rfl ?_
  refine so_ldA 3 rfl rfl rfl rfl rfl rfl (segO_all (by rw [zl]; rfl)) rfl ?_
  refine so_callE rfl rfl rfl (SameLetter_S hz'.symm (lP_lr (y := y1) (k := 7) rfl) (lP_lr (y := z) (k := 4) rfl) y132 (ev_nE (P := fun e => e.id.length = 32 ∧ len32 e.refs ∧ e.refs.length ≤ 1000000) same_nE (nL_evs hy1) (fun e he => by rw [List.mem_singleton.1 he]; exact ⟨h32, (oneX_ew hx0.ok).r32, by show (1 : Nat) ≤ _; decide⟩))) ?_
  ((iterate 2 refine so_1 rfl ?_); refine so_nil (sn_then ?_); refine sw_ret ?_)
  refine sn_ret rfl (.tmp rfl .nil) (ent_keep 8 [] rfl rfl) ?_
  exact ⟨rfl, rfl⟩
end
end Go.Proofs.YtmeiadgpglpelaaGreat
/- Letters: the chapter's examples (LetterKnown). Conditions: none. -/
namespace Go.Proofs.YtmeiadgpglpelaaGreat
open Go Go.Eng Go.RowKit

section
variable {b : World} {F : List SP}
end
end Go.Proofs.YtmeiadgpglpelaaGreat
/- Letters as arguments: read. Conditions: none. -/
namespace Go.Proofs.YtmeiadgpglpelaaGreat
open Go Go.Eng Go.RowKit

end Go.Proofs.YtmeiadgpglpelaaGreat
/- Letters: what is encoded is decoded as it was (LetterBack). Conditions: none. -/
namespace Go.Proofs.YtmeiadgpglpelaaGreat
open Go Go.Eng Go.RowKit

theorem decT_id (B : List Int) : (decT B).1.id.length = 32 := by
  by_cases h1 : 262144 < B.length
  · unfold decT; rw [if_pos h1]; rfl
  rw [decT_eq (by omega)]
  split
  · rfl
  · cases (lEvs (lAll B r0).1).2 with
    | some a => rfl
    | none =>
      simp only [decTm]
      split
      · rfl
      · have a0 : (r0 : RS).e = 0 → (r0 : RS).at' ≤ B.length := fun _ => Nat.zero_le _
        have a5 := go_at go_num (go_at (go_vec 16) (go_at go_num (go_at go_num (go_at go_num a0))))
        have a6 := go_at go_dot (go_at (go_evs (rNum B (rVec B 16 (rNum B (rNum B (rNum B r0).2).2).2).2).1.toNat) a5)
        exact rID_len a6
theorem SC.gather {P : Program} {f : Nat} {args : List Value} {b : World} {F : List SP} {R R' : Value → List SP → Prop} (h : SC P f args b F R) (hr : ∀ v F' w, R v F' → Sat b F' w → ∃ G, R' v G ∧ Ent F' G) : SC P f args b F R' := fun w H => (h w H).mono fun _ _ ⟨v, F', h1, h2, h3⟩ => by
  obtain ⟨G, h4, h5⟩ := hr v F' _ h2 h3
  exact ⟨v, G, h1, h4, h3.ent h5⟩
section
variable {b : World} {F : List SP}
/-- As DecodeT_S; the letter's memory as one piece. -/
theorem DecodeL_S {B : List Int} {vb : Value} (hv : ∀ w, Sat b F w → VL (Value.int .u8) w vb B) (hB : B.length ≤ 1000000) (hb : byteOk B) :
    SC Tryz.prog n_letter_Decode [vb] b F (fun u F' => ∃ y : Lt, (nL y = (decT B).1 ∧ (ltC y).length = 40 ∧ ∀ u ∈ ltC y, u.oneCell' = true) ∧ u = .tuple ⟨[ltV y, ftV (decT B).2]⟩ ∧ F' = lP y :: F) := by
  refine Go.Proofs.YtmeiadgpglpelaaGreat.SC.gather (DecodeT_S hv hB hb) ?_
  rintro _ _ w ⟨y, hy, rfl, rfl⟩ H
  have h32 : y.id.length = 32 := (congrArg (fun z : Lt => z.id.length) hy).trans (decT_id B)
  obtain ⟨q1, q2, q3⟩ := lr_form (lt_rows (y := y) (j1 := 0) (j2 := 1) (j3 := 2) (j4 := 3) rfl rfl rfl rfl w H)
  exact ⟨lP y :: F, ⟨y, ⟨hy, ltC_len h32, ltC_one q1 q2 q3⟩, rfl, rfl⟩, ent_close (G := ltP y)⟩
end
end Go.Proofs.YtmeiadgpglpelaaGreat
/- Letters: notes, ships and gives that may be (LetterFits). Conditions: none. -/
namespace Go.Proofs.YtmeiadgpglpelaaGreat
open Go Go.Eng Go.RowKit

end Go.Proofs.YtmeiadgpglpelaaGreat
/- Letters: the document's Note and Ship; letters written over. Conditions: not too much. -/
namespace Go.Proofs.YtmeiadgpglpelaaGreat
open Go Go.Eng Go.RowKit

section
variable {b : World} {F : List SP}
/-! ## Letters one behind the other -/
abbrev ltsC (l : List Lt) : List Value := flC ltC l
def ltsF : List Lt → List SP
  | [] => []
  | x :: l => ltP x ++ ltsF l
abbrev rLs (v : Value) (l : List Lt) : SP := row t_api_Letter 40 v l.length (ltsC l)
def ltO : Lt := ⟨-7, 0, 0, nS, [], nS, [], 0, 0, List.replicate 32 0, nS, []⟩
theorem lt_len40 {l : List Lt} (h : ∀ x ∈ l, x.id.length = 32) : ∀ x ∈ l, (ltC x).length = 40 := fun x hx => ltC_len (h x hx)
set_option maxRecDepth 20000 in
set_option maxHeartbeats 4000000 in
theorem OverLetters_S {v : Value} {l : List Lt} (h32 : ∀ x ∈ l, x.id.length = 32) (hl : ∀ x ∈ l, x.seen.length ≤ 1000000 ∧ x.bs.length ≤ 1000000 ∧ x.evs.length ≤ 1000000 ∧ ∀ e ∈ x.evs, (e.id.length = 32 ∧ len32 e.refs) ∧ (e.deps.length ≤ 1000000 ∧ e.refs.length ≤ 1000000)) (hm : l.length ≤ 1000000) :
    SC Tryz.prog n_entrepotkit_OverLetters [v] b (rLs v l :: all (ltsF l) :: F) (fun _ F' => F' = F) := by
  refine enterS F_entrepotkit_OverLetters rfl rfl rfl ?_
  refine sw_fact (fun w H => (H.oat (k := 0) rfl).form) ?_
  rintro ⟨A, c, rfl, k1, k2, k3⟩
  (refine sw_seq (sw_region ?_); refine so_1 rfl ?_; refine so_nil (sn_then ?_); refine sw_block ?_)
  refine sw_loop (S := Nat × List Lt) (fun s => [(0, .slice A l.length c), (2, .int .i64 (s.1 : Int))]) (fun s => row t_api_Letter 40 (.slice A l.length c) l.length (ltsC s.2) :: all (ltsF (s.2.drop s.1)) :: F) (fun s => s.1 ≤ l.length ∧ s.2.drop s.1 = l.drop s.1 ∧ s.2.length = l.length ∧ ∀ x ∈ s.2, x.id.length = 32) (fun s => l.length - s.1) (0, l) ⟨rfl, rfl, trivial⟩ (Ent.refl _) ⟨Nat.zero_le _, rfl, rfl, h32⟩ ?_
  rintro ⟨i, m⟩ ⟨i1, i2, i3, i4⟩
  dsimp only at i1 i2 i3 i4 ⊢
  ((iterate 2 refine sw_seq ?_); refine sw_region ?_; (iterate 4 refine so_1 rfl ?_); refine so_nil (sn_then ?_))
  refine sw_if rfl (fun h1 => ?_) (fun h1 => ?_)
  · obtain ⟨gA, oA, rfl⟩ := k3 (by omega)
    have h1' : i < l.length := by omega
    have h2' : i < m.length := by omega
    have hml : m[i] = l[i] := by
      have := congrArg (·[0]?) i2
      simpa [h1', h2'] using this
    have hmem := List.getElem_mem h1'
    have e32 := h32 _ hmem
    obtain ⟨es, eb, en, ee⟩ := hl _ hmem
    have hdr : m.drop i = l[i] :: m.drop (i + 1) := by rw [← hml]; exact List.drop_eq_getElem_cons h2'
    have hset : spl (ltsC m) (i * 40) (ltC ltO) = ltsC (m.set i ltO) := flC_set (lt_len40 i4) rfl h2'
    have hcm : ∀ j, j < 40 → (ltsC m)[i * 40 + j]? = (ltC l[i])[j]? := fun j hj => by rw [flC_at (lt_len40 i4) h2' hj, hml]
    have hlenm : (ltsC m).length = m.length * 40 := flC_len (lt_len40 i4)
    have hdr2 : (m.set i ltO).drop (i + 1) = m.drop (i + 1) := by rw [List.drop_set_of_lt (by omega)]
    have hdr3 : m.drop (i + 1) = l.drop (i + 1) := by
      have := congrArg (List.drop 1) i2
      rwa [List.drop_drop, List.drop_drop] at this
    generalize l[i] = x at *
    refine sw_ent (G := rZ x.sv x.seen :: rEs x.ev x.evs :: all (evF x.evs) :: rB x.bv x.bs :: row t_api_Letter 40 (.slice (some ⟨gA, oA, none⟩) l.length c) l.length (ltsC m) :: all (ltsF (m.drop (i + 1))) :: F) (by
      rw [hdr]
      exact (ent_keep 2 [1, 0] rfl rfl).trans ((ent_out (A := ltsF (x :: m.drop (i + 1))) (B := ltP x) (C := ltsF (m.drop (i + 1))) (.refl _)).trans (ent_keep 6 [0, 1, 2, 3, 5, 4] rfl rfl))) ?_
    (refine sw_skip ?_; refine sn_then ?_; refine sw_seq ?_; refine sw_block ?_; refine sw_seq (sw_region ?_); (iterate 2 refine so_1 rfl ?_); refine so_2 rfl (by omega) ?_; refine so_1 rfl ?_)
    refine so_rd rfl (fun w H => ex_load rfl rfl rfl (by rw [mulz_eq, Int.toNat_natCast, Nat.add_assoc]; exact row_cell (k := 4) rfl ((hcm 3 (by omega)).trans rfl) w H)) rfl ?_
    refine so_call rfl rfl rfl (OverInts_D (v := x.sv) (l := x.seen) es) ?_
    rintro _ _ rfl
    (refine so_nil (sn_then ?_); refine sw_seq (sw_region ?_); (iterate 2 refine so_1 rfl ?_); refine so_2 rfl (by omega) ?_; refine so_1 rfl ?_)
    refine so_rd rfl (fun w H => ex_load rfl rfl rfl (by rw [mulz_eq, Int.toNat_natCast, Nat.add_assoc]; exact row_cell (k := 3) rfl ((hcm 4 (by omega)).trans rfl) w H)) rfl ?_
    refine so_call rfl rfl rfl (OverEvents_D (v := x.ev) (l := x.evs) (fun e he => (ee e he).1) (fun e he => (ee e he).2) en) ?_
    rintro _ _ rfl
    (refine so_nil (sn_then ?_); refine sw_seq (sw_region ?_); (iterate 2 refine so_1 rfl ?_); refine so_2 rfl (by omega) ?_; refine so_1 rfl ?_)
    refine so_rd rfl (fun w H => ex_load rfl rfl rfl (by rw [mulz_eq, Int.toNat_natCast, Nat.add_assoc]; exact row_cell (k := 1) rfl ((hcm 39 (by omega)).trans (by rw [← nth_eq]; exact ltC_bv e32)) w H)) rfl ?_
    refine so_call rfl rfl rfl (OverBytes_S (v := x.bv) (l := x.bs) (by omega)) ?_
    rintro _ _ ⟨l', rfl⟩
    refine so_ent (ent_keep 1 [] rfl rfl) ?_
    (refine so_nil (sn_then ?_); refine sw_region ?_; (iterate 3 refine so_1 rfl ?_); refine so_2 rfl (by omega) ?_)
    refine so_know 29 (.agg ⟨ltC ltO⟩) rfl rfl ?_
    skip
    refine so_strow 0 (i * 40) rfl rfl rfl rfl rfl rfl rfl rfl hset rfl (by rw [mulz_eq, Int.toNat_natCast]) (by rw [hlenm]; have : (ltC ltO).length = 40 := rfl; omega) (ltC_one rfl rfl rfl) ?_
    (refine so_nil ?_; refine sn_block ?_; refine sn_then ?_; refine sw_region ?_; refine so_1 rfl ?_; refine so_2 rfl (by (unfold I64; omega)) ?_; refine so_1 rfl ?_; refine so_nil ?_)
    refine sn_round (i + 1, m.set i ltO) ⟨rfl, rfl, trivial⟩ (by simp only [hdr2]; exact Ent.refl _) ⟨by dsimp only; omega, by dsimp only; rw [hdr2, hdr3], by dsimp only; rw [List.length_set]; exact i3, fun e he => by
      rcases List.mem_or_eq_of_mem_set he with h | rfl
      · exact i4 e h
      · rfl⟩ (by dsimp only; omega)
  · (refine sw_exit ?_; refine sn_then_exit ?_; refine sn_loop_exit ?_; refine sn_block_exit ?_)
    refine sn_end rfl .nil (ent_keep 2 [] rfl rfl) ?_
    rfl
end
end Go.Proofs.YtmeiadgpglpelaaGreat
/- Letters: which letters Note and Ship make (LetterMakes). Conditions: none. -/
namespace Go.Proofs.YtmeiadgpglpelaaGreat
open Go Go.Eng Go.RowKit

theorem ent_ltsF1 {F : List SP} {x : Lt} : Ent (lP x :: F) (all (ltsF [x]) :: F) :=
  (ent_open (G := ltP x)).trans (ent_close (G := ltP x ++ []))
end Go.Proofs.YtmeiadgpglpelaaGreat
/- Letters: the document's Check, its parts. Conditions: numbers of 64 bits; not too much. -/
namespace Go.Proofs.YtmeiadgpglpelaaGreat
open Go Go.Eng Go.RowKit

section
variable {b : World} {F : List SP} {x : Lt}
end
end Go.Proofs.YtmeiadgpglpelaaGreat
/- Letters: the document's Check. Conditions: numbers of 64 bits; not too much. -/
namespace Go.Proofs.YtmeiadgpglpelaaGreat
open Go Go.Eng Go.RowKit

section
variable {b : World} {F : List SP} {x : Lt} {n w0 : Int}
end
end Go.Proofs.YtmeiadgpglpelaaGreat
/- Letters as bytes: the document's Encode; both check and encode alike (LetterChecks). Conditions: none. -/
namespace Go.Proofs.YtmeiadgpglpelaaGreat
open Go Go.Eng Go.RowKit

section
variable {b : World} {F : List SP} {x : Lt}
end
end Go.Proofs.YtmeiadgpglpelaaGreat
/- Letters: both check and encode alike (LetterChecks). Conditions: none. -/
namespace Go.Proofs.YtmeiadgpglpelaaGreat
open Go Go.Eng Go.RowKit

end Go.Proofs.YtmeiadgpglpelaaGreat
/- Letters as bytes: the document's Decode. Conditions: not too many bytes. -/
namespace Go.Proofs.YtmeiadgpglpelaaGreat
open Go Go.Eng Go.RowKit

section
variable {b : World} {F : List SP} {B : List Int} {s : RS} {g : Nat} {vb : Value}
theorem rfailed_S (hv : ∀ w, Sat b F w → VL (Value.int .u8) w vb B) (hB : B.length ≤ 1000000) (hat : s.e = 0 → s.at' ≤ B.length) : SC Tryz.prog n_entrepotref25_failed [.pointer (some ⟨g, 0, none⟩)] b (rfP g vb s :: F) (fun u F' => u = .bool (decide (s.e ≠ 0)) ∧ F' = rfP g vb s :: F) := by
  refine enterS F_entrepotref25_failed rfl rfl rfl ?_
  (refine sw_seq (sw_region ?_); refine so_1 rfl ?_; refine so_nil (sn_then ?_); refine sw_seq (sw_region ?_); refine so_1 rfl ?_)
  refine so_call rfl rfl rfl (rfRest_S hv hB hat) ?_
  rintro _ _ ⟨rfl, rfl⟩
  ((iterate 2 refine so_1 rfl ?_))
  refine so_if 6 rfl (fun h => ?_) (fun h => ?_)
  · (refine so_1 rfl ?_)
    refine so_call rfl rfl rfl (rfEnd_S hv hB) ?_
    rintro _ _ ⟨rfl, rfl⟩
    skip
    refine so_pu rfl (pu_fld rfl rfl rfl rfl rfl rfl rfl) rfl ?_
    ((iterate 3 refine so_1 rfl ?_); refine so_nil (sn_then ?_); refine sw_ret ?_)
    refine sn_ret rfl (.tmp rfl .nil) (Ent.refl _) ?_
    refine ⟨congrArg Value.bool ?_, rfl⟩
    by_cases h1 : s.e = 0
    · have : (rEnd B s).1 = 0 := by
        unfold rRest at h; rw [if_neg (by simp [h1])] at h
        unfold rEnd; rw [if_neg (by omega)]; exact h1
      simp [h1, this]
    · have : (rEnd B s).1 ≠ 0 := by unfold rEnd; rw [if_neg (fun h => h1 h.1)]; exact h1
      simp [h1, this]
  · ((iterate 6 refine so_1 rfl ?_); refine so_nil (sn_then ?_); refine sw_ret ?_)
    refine sn_ret rfl (.tmp rfl .nil) (Ent.refl _) ?_
    refine ⟨congrArg Value.bool (decide_eq_false ?_).symm, rfl⟩
    intro h1
    apply h; unfold rRest; rw [if_pos h1]
end
theorem stuck3 {B : List Int} {s : RS} (h : (rBytes B 4096 (rID B (rDot B s).2).2).2.e = 0) : s.e = 0 := go_dot.stuck B s (go_id.stuck B _ ((go_bytes 4096).stuck B _ h))
section
variable {b : World} {F : List SP} {B : List Int}
set_option maxRecDepth 20000 in
set_option maxHeartbeats 8000000 in
theorem rDecodeT_S {vb : Value} (hv : ∀ w, Sat b F w → VL (Value.int .u8) w vb B) (hB : B.length ≤ 1000000) (hb : byteOk B) :
    SC Tryz.prog n_entrepotref25_Decode [vb] b F (fun u F' => ∃ y : Lt, nL y = (decT B).1 ∧ u = .tuple ⟨[ltV y, ftV (decT B).2]⟩ ∧ F' = ltP y ++ F) := by
  refine enterS F_entrepotref25_Decode rfl rfl rfl ?_
  refine sw_fact (fun w H => (hv w H).form) ?_
  rintro ⟨A, c0, rfl, hc1, hc2, hc3, _⟩
  (refine sw_seq (sw_region ?_))
  refine so_new rfl rfl rfl rfl rfl fun g2 => ?_
  refine so_new rfl rfl rfl rfl rfl fun g3 => ?_
  (refine so_nil (sn_then ?_); (iterate 2 refine sw_seq ?_); refine sw_region ?_; (iterate 3 refine so_1 rfl ?_); refine so_nil (sn_then ?_))
  refine sw_if rfl (fun h => ?_) (fun h => ?_)
  · have hdec : decT B = (ltZ, 4, 262144) := by unfold decT; rw [if_pos (by omega)]
    (refine sw_seq (sw_region ?_); (iterate 2 refine so_1 rfl ?_); refine so_s1 1 rfl rfl rfl rfl ?_; refine so_s1 0 rfl rfl rfl rfl ?_; refine so_nil (sn_then ?_); refine sw_ret ?_; refine sn_then_ret ?_)
    refine sn_ret rfl (.whole 1 rfl rfl rfl rfl rfl (.agg 0 rfl rfl rfl rfl rfl .nil)) ((ent_keep 2 [] rfl rfl).trans ent_ltZ) ?_
    rw [hdec]
    exact ⟨ltZ, rfl, rfl, rfl⟩
  have hdec : decT B = decT2 B (rNum B r0).1 (rNum B (rNum B r0).2).1 (rNum B (rNum B (rNum B r0).2).2).1 (rVec B 16 (rNum B (rNum B (rNum B r0).2).2).2).1 (rVec B 16 (rNum B (rNum B (rNum B r0).2).2).2).2 := by unfold decT; rw [if_neg (by omega)]
  have hfa : (lAll B r0).2.e = 0 → (lAll B r0).2.fa = 0 := fun h => (go_lAll.go B [] r0 h (Nat.zero_le _)).2.2.2
  unfold lAll lFrom lTo lSeen lNum lEv lDot lId at hfa
  dsimp only at hfa
  have a0 : (r0 : RS).e = 0 → (r0 : RS).at' ≤ B.length := fun _ => Nat.zero_le _
  have a1 := go_at go_num a0
  have a2 := go_at go_num a1
  have a3 := go_at go_num a2
  have a4 := go_at (go_vec 16) a3
  (refine sw_skip ?_; refine sn_then ?_; refine sw_seq (sw_region ?_); refine so_1 rfl ?_)
  refine so_call rfl rfl rfl (fNewReader_S (up hv (ent_keep 2 [] rfl rfl))) ?_
  rintro _ _ ⟨g, rfl, rfl⟩
  (refine so_1 rfl ?_; refine so_nil (sn_then ?_); refine sw_seq (sw_region ?_))
  refine so_new rfl rfl rfl rfl rfl fun g5 => ?_
  refine so_ent (G := rfP g (.slice A B.length c0) r0 :: pt g5 t_api_Letter (ltC ltZ) :: pt g3 t_api_Fault [.int .i64 0, .int .i64 0] :: pt g2 t_api_Letter (ltC ltZ) :: F) (ent_keep 4 [1, 0, 2, 3] rfl rfl) ?_
  (refine so_nil (sn_then ?_); refine sw_seq (sw_region ?_); refine so_1 rfl ?_)
  refine so_call rfl rfl rfl (rfNum_S (up hv (ent_keep 3 [] rfl rfl)) hB hb) ?_
  rintro _ _ ⟨rfl, rfl⟩
  generalize rNum B r0 = q1 at hdec hfa a1 a2 a3 a4 ⊢
  obtain ⟨k, s1⟩ := q1
  dsimp only at hdec hfa a1 a2 a3 a4 ⊢
  (refine so_1 rfl ?_; refine so_s1 1 rfl rfl rfl rfl ?_; refine so_nil (sn_then ?_); refine sw_seq (sw_region ?_); refine so_1 rfl ?_)
  refine so_call rfl rfl rfl (rfNum_S (up hv (ent_keep 3 [] rfl rfl)) hB hb) ?_
  rintro _ _ ⟨rfl, rfl⟩
  generalize rNum B s1 = q2 at hdec hfa a2 a3 a4 ⊢
  obtain ⟨f, s2⟩ := q2
  dsimp only at hdec hfa a2 a3 a4 ⊢
  (refine so_1 rfl ?_; refine so_s1 1 rfl rfl rfl rfl ?_; refine so_nil (sn_then ?_); refine sw_seq (sw_region ?_); refine so_1 rfl ?_)
  refine so_call rfl rfl rfl (rfNum_S (up hv (ent_keep 3 [] rfl rfl)) hB hb) ?_
  rintro _ _ ⟨rfl, rfl⟩
  generalize rNum B s2 = q3 at hdec hfa a3 a4 ⊢
  obtain ⟨t, s3⟩ := q3
  dsimp only at hdec hfa a3 a4 ⊢
  (refine so_1 rfl ?_; refine so_s1 1 rfl rfl rfl rfl ?_; refine so_nil (sn_then ?_); refine sw_seq (sw_region ?_); refine so_1 rfl ?_)
  refine so_call rfl rfl rfl (rfVec_S (up hv (ent_keep 3 [] rfl rfl)) (by decide) hB hb) ?_
  rintro sv _ rfl
  generalize rVec B 16 s3 = q4 at hdec hfa a4 ⊢
  obtain ⟨sn, s4⟩ := q4
  dsimp only at hdec hfa a4 ⊢
  refine so_fact (fun w H => (H.oat (k := 0) rfl).form) ?_
  rintro ⟨As, cs, rfl, _, _, _⟩
  (refine so_1 rfl ?_; refine so_s1 2 rfl rfl rfl rfl ?_; refine so_nil (sn_then ?_); refine sw_seq (sw_region ?_); (iterate 3 refine so_1 rfl ?_))
  refine so_ent (G := rfP g (.slice A B.length c0) s4 :: pt g5 t_api_Letter (ltC (ltX k f t (.slice As sn.length cs) sn nS)) :: rZ (.slice As sn.length cs) sn :: pt g3 t_api_Fault [.int .i64 0, .int .i64 0] :: pt g2 t_api_Letter (ltC ltZ) :: F) (ent_keep 5 [1, 2, 0, 3, 4] rfl rfl) ?_
  refine so_call rfl rfl rfl (rfRest_S (up hv (ent_keep 4 [] rfl rfl)) hB a4) ?_
  rintro _ _ ⟨rfl, rfl⟩
  have hrest : 0 ≤ rRest B s4 ∧ rRest B s4 ≤ B.length := by
    unfold rRest
    split
    · omega
    · rename_i h9; have := a4 (by simpa using h9); omega
  (refine so_2 rfl (by (unfold I64; omega)) ?_; refine so_1 rfl ?_; refine so_nil (sn_then ?_); refine sw_seq (sw_region ?_); refine so_1 rfl ?_)
  refine so_call rfl rfl rfl (rfNum_S (up hv (ent_keep 4 [] rfl rfl)) hB hb) ?_
  rintro _ _ ⟨rfl, rfl⟩
  have a5 := go_at go_num a4
  have hn := rNum_nn (s := s4) hb
  unfold decT2 at hdec
  dsimp only at hdec
  generalize rNum B s4 = q5 at hdec hfa a5 hn ⊢
  obtain ⟨n0, s5⟩ := q5
  dsimp only at hdec hfa a5 hn ⊢
  (refine so_1 rfl ?_; refine so_nil (sn_then ?_); (iterate 2 refine sw_seq ?_); refine sw_region ?_; (iterate 2 refine so_1 rfl ?_); refine so_nil (sn_then ?_))
  refine sw_if rfl (fun h5 => ?_) (fun h5 => ?_)
  · rw [if_pos h5] at hdec
    (refine sw_seq (sw_region ?_); (iterate 3 refine so_1 rfl ?_); refine so_s1 4 rfl rfl rfl rfl ?_; refine so_s1 3 rfl rfl rfl rfl ?_; refine so_nil (sn_then ?_); refine sw_ret ?_; refine sn_then_ret ?_)
    refine sn_ret rfl (.whole 4 rfl rfl rfl rfl rfl (.agg 3 rfl rfl rfl rfl rfl .nil)) ((ent_keep 5 [] rfl rfl).trans ent_ltZ) ?_
    rw [hdec]
    exact ⟨ltZ, rfl, rfl, rfl⟩
  rw [if_neg h5] at hdec
  obtain ⟨n, rfl⟩ := Int.eq_ofNat_of_zero_le hn.1
  rw [Int.toNat_natCast] at hdec hfa
  have h8 : n ≤ 8 := by omega
  (refine sw_skip ?_; refine sn_then ?_; (iterate 2 refine sw_seq ?_); refine sw_region ?_; refine so_1 rfl ?_; refine so_nil (sn_then ?_); refine sw_block ?_)
  refine sw_loop (S := Nat × Value × List Ev × RS) (fun x => [(0, .slice A B.length c0), (2, .pointer (some ⟨g2, 0, none⟩)), (3, .pointer (some ⟨g3, 0, none⟩)), (4, .pointer (some ⟨g, 0, none⟩)), (5, .pointer (some ⟨g5, 0, none⟩)), (7, .int .i64 (n : Int)), (8, .int .i64 (x.1 : Int))])
    (fun x => rfP g (.slice A B.length c0) x.2.2.2 :: pt g5 t_api_Letter (ltC (ltX k f t (.slice As sn.length cs) sn x.2.1)) :: rEs x.2.1 x.2.2.1 :: all (evF x.2.2.1) :: rZ (.slice As sn.length cs) sn :: pt g3 t_api_Fault [.int .i64 0, .int .i64 0] :: pt g2 t_api_Letter (ltC ltZ) :: F)
    (fun x => x.1 ≤ n ∧ (x.2.2.2.e = 0 → x.2.2.2.at' ≤ B.length) ∧ x.2.2.1.length ≤ x.1 ∧ (x.2.2.2.e = 0 → rEvs B n s5 = ((x.2.2.1.map nE ++ (rEvs B (n - x.1) x.2.2.2).1.1, (rEvs B (n - x.1) x.2.2.2).1.2), (rEvs B (n - x.1) x.2.2.2).2)) ∧ (x.2.2.2.e ≠ 0 → ∃ evs0, rEvs B n s5 = ((evs0, none), x.2.2.2))) (fun x => n - x.1) (0, nS, [], s5) ⟨rfl, rfl, rfl, rfl, rfl, rfl, rfl, trivial⟩ ?_ ⟨Nat.zero_le _, a5, Nat.le_refl _, fun _ => rfl, fun h => ⟨[], rEvs_stuck h n⟩⟩ ?_
  · exact ((ent_close (G := [])).trans (ent_row_nil t_api_Event 39 rfl)).trans (ent_keep 7 [2, 3, 0, 1, 4, 5, 6] rfl rfl)
  rintro ⟨i, v, D, s⟩ ⟨hi, hat, hDl, hA, hS⟩
  dsimp only at hi hat hDl hA hS ⊢
  refine sw_fact (fun w H => (H.oat (k := 2) rfl).form) ?_
  rintro ⟨Ae, ce, rfl, _, _, _⟩
  ((iterate 2 refine sw_seq ?_); refine sw_region ?_; (iterate 3 refine so_1 rfl ?_); refine so_nil (sn_then ?_))
  refine sw_if rfl (fun h6 => ?_) (fun h6 => ?_)
  · have h6' : i < n := by omega
    obtain ⟨m, hm⟩ : ∃ m, n - i = m + 1 := ⟨n - i - 1, by omega⟩
    have hm' : n - (i + 1) = m := by omega
    rw [hm] at hA
    (refine sw_skip ?_; refine sn_then ?_; refine sw_seq ?_; refine sw_block ?_; refine sw_seq (sw_region ?_); refine so_1 rfl ?_)
    refine so_call rfl rfl rfl (rfRest_S (up hv (ent_keep 6 [] rfl rfl)) hB hat) ?_
    rintro _ _ ⟨rfl, rfl⟩
    have hrs : 0 ≤ rRest B s ∧ rRest B s ≤ B.length ∧ (s.e = 0 → (B.length : Int) - rRest B s = s.at') := by
      unfold rRest
      split
      · rename_i h9; exact ⟨by omega, by omega, fun h => absurd h h9⟩
      · rename_i h9; have := hat (by simpa using h9); exact ⟨by omega, by omega, fun _ => by omega⟩
    (refine so_1 rfl ?_; refine so_nil (sn_then ?_); refine sw_seq (sw_region ?_); refine so_1 rfl ?_)
    refine so_call rfl rfl rfl (rfBytes_S (up hv (ent_keep 6 [] rfl rfl)) hB hb hat) ?_
    rintro rp _ rfl
    have ab := go_at (go_bytes 16384) hat
    have hst : (rBytes B 16384 s).2.e = 0 → s.e = 0 := fun h => (go_bytes 16384).stuck B s h
    have hsk : s.e ≠ 0 → (rBytes B 16384 s).2 = s := fun h => by rw [rBytes_stuck _ h]
    have hbb : byteOk (rBytes B 16384 s).1 := (rTake_ok hb).1
    have hbl : (rBytes B 16384 s).1.length ≤ 1000000 := Nat.le_trans (rTake_ok hb).2 hB
    have hun : rEvs B (m + 1) s = if (rBytes B 16384 s).2.e ≠ 0 then (([], none), (rBytes B 16384 s).2) else if (decE (rBytes B 16384 s).1).2.1 ≠ 0 then (([], some (s.at' : Int)), (rBytes B 16384 s).2) else (((decE (rBytes B 16384 s).1).1 :: (rEvs B m (rBytes B 16384 s).2).1.1, (rEvs B m (rBytes B 16384 s).2).1.2), (rEvs B m (rBytes B 16384 s).2).2) := rfl
    rw [hun] at hA
    clear hun
    generalize rBytes B 16384 s = p at *
    obtain ⟨p, s'⟩ := p
    dsimp only at ab hst hsk hbb hbl hA ⊢
    (refine so_1 rfl ?_; refine so_nil (sn_then ?_); refine sw_seq (sw_region ?_); refine so_1 rfl ?_)
    refine so_call rfl rfl rfl (rDecode_S (vlB (l := p) (k := 0) rfl) hbl hbb) ?_
    rintro _ _ ⟨dv, rv, rfl, rfl⟩
    have hf2 := dec_f2 (B := p)
    have hdn := decE_nE p
    have hd32 := (dec_w p).1
    generalize hdp : decE p = q at *
    obtain ⟨e, f1, f2⟩ := q
    dsimp only at hf2 hA hdn hd32 ⊢
    refine so_fact (fun w H => (H.oat (k := 0) rfl).form) ?_
    rintro ⟨A2, c2, rfl, _, _, _⟩
    refine so_fact (fun w H => (H.oat (k := 1) rfl).form) ?_
    rintro ⟨A3, c3, rfl, _, _, _⟩
    have hyl := evC_len (e := e.own (.slice A2 e.deps.length c2) (.slice A3 e.refs.length c3)) hd32
    have hy1 := evC_one (e := e.own (.slice A2 e.deps.length c2) (.slice A3 e.refs.length c3)) rfl rfl
    have hyn : nE (e.own (.slice A2 e.deps.length c2) (.slice A3 e.refs.length c3)) = e := hdn
    have hyP : evP (e.own (.slice A2 e.deps.length c2) (.slice A3 e.refs.length c3)) = [rZ (.slice A2 e.deps.length c2) e.deps, rD (.slice A3 e.refs.length c3) e.refs] := rfl
    generalize e.own (.slice A2 e.deps.length c2) (.slice A3 e.refs.length c3) = y at *
    ((iterate 3 refine so_1 rfl ?_))
    refine so_new rfl rfl rfl rfl rfl fun g11 => ?_
    refine so_new rfl rfl rfl rfl rfl fun g12 => ?_
    refine so_stW 1 rfl rfl rfl rfl rfl rfl rfl hyl hy1 (by rw [hyl]; rfl) ?_
    (refine so_s1 0 rfl rfl rfl rfl ?_)
    refine so_nil (sn_then ?_)
    refine sw_mid (S := Unit) (fun _ => [(0, .slice A B.length c0), (2, .pointer (some ⟨g2, 0, none⟩)), (3, .pointer (some ⟨g3, 0, none⟩)), (4, .pointer (some ⟨g, 0, none⟩)), (5, .pointer (some ⟨g5, 0, none⟩)), (7, .int .i64 (n : Int)), (8, .int .i64 (i : Int)), (11, .pointer (some ⟨g11, 0, none⟩))])
      (fun _ => pt g12 t_api_Fault [.int .i64 f1, .int .i64 f2] :: pt g11 t_api_Event (evC y) :: rZ (.slice A2 e.deps.length c2) e.deps :: rD (.slice A3 e.refs.length c3) e.refs :: rB rp p :: rfP g (.slice A B.length c0) s' :: pt g5 t_api_Letter (ltC (ltX k f t (.slice As sn.length cs) sn (.slice Ae D.length ce))) :: rEs (.slice Ae D.length ce) D :: all (evF D) :: rZ (.slice As sn.length cs) sn :: pt g3 t_api_Fault [.int .i64 0, .int .i64 0] :: pt g2 t_api_Letter (ltC ltZ) :: F) (fun _ => f1 = 0 ∨ s'.e ≠ 0) ?_ ?_
    · (refine sw_seq (sw_region ?_); refine so_1 rfl ?_; refine so_l 0 rfl rfl rfl ?_; (iterate 2 refine so_1 rfl ?_))
      by_cases h9 : f1 = 0
      · refine so_know 62 (.bool false) rfl (by rw [decide_eq_true h9]; rfl) ?_
        ((iterate 4 refine so_1 rfl ?_); refine so_nil (sn_then ?_); refine sw_cond_f rfl ?_; refine sw_skip ?_)
        exact sn_mid () ⟨rfl, rfl, rfl, rfl, rfl, rfl, rfl, rfl, trivial⟩ (Ent.refl _) (.inl h9)
      refine so_know 62 (.bool true) rfl (by rw [decide_eq_false h9]; rfl) ?_
      (refine so_1 rfl ?_)
      refine so_call rfl rfl rfl ((rfailed_S (F := pt g12 t_api_Fault [.int .i64 f1, .int .i64 f2] :: pt g11 t_api_Event (evC y) :: rZ (.slice A2 e.deps.length c2) e.deps :: rD (.slice A3 e.refs.length c3) e.refs :: rB rp p :: pt g5 t_api_Letter (ltC (ltX k f t (.slice As sn.length cs) sn (.slice Ae D.length ce))) :: rEs (.slice Ae D.length ce) D :: all (evF D) :: rZ (.slice As sn.length cs) sn :: pt g3 t_api_Fault [.int .i64 0, .int .i64 0] :: pt g2 t_api_Letter (ltC ltZ) :: F) (up hv (ent_keep 11 [] rfl rfl)) hB ab).ent (ent_keep 6 [5, 0, 1, 2, 3, 4] rfl rfl)) ?_
      rintro _ _ ⟨rfl, rfl⟩
      ((iterate 2 refine so_1 rfl ?_); refine so_nil (sn_then ?_))
      refine sw_ifn rfl (fun h7 => ?_) (fun h7 => ?_)
      · have h7' : s'.e = 0 := by simpa using h7
        have hse := hst h7'
        have hA := hA hse
        rw [if_neg (by simp [h7']), if_pos h9] at hA
        (refine sw_seq (sw_region ?_); (iterate 4 refine so_1 rfl ?_); refine so_2 rfl (by (unfold I64; omega)) ?_; refine so_1 rfl ?_)
        have hr : decT B = (ltZ, 5, (s.at' : Int)) := by rw [hdec, hA]; rfl
        refine so_s1 11 rfl rfl rfl rfl ?_
        refine so_s1 10 rfl rfl rfl rfl ?_
        (refine so_nil (sn_then ?_); refine sw_ret ?_; refine sn_loop_ret ?_; refine sn_block_ret ?_; refine sn_then_ret ?_; refine sn_loop_ret ?_; refine sn_block_ret ?_; refine sn_then_ret ?_)
        refine sn_ret rfl (.whole 11 rfl rfl rfl rfl rfl (.agg 10 rfl rfl rfl rfl rfl .nil)) ((ent_keep 12 [] rfl rfl).trans ent_ltZ) ?_
        rw [hr]
        exact ⟨ltZ, rfl, by rw [← hrs.2.2 hse]; rfl, rfl⟩
      · (refine sw_skip ?_)
        exact sn_mid () ⟨rfl, rfl, rfl, rfl, rfl, rfl, rfl, rfl, trivial⟩ (ent_keep 6 [1, 2, 3, 4, 5, 0] rfl rfl) (.inr h7)
    rintro ⟨⟩ hor
    (refine sw_region ?_; refine so_1 rfl ?_; refine so_l 6 rfl rfl rfl ?_)
    refine so_ldA 1 rfl rfl rfl rfl rfl rfl (segO_all (by rw [hyl]; rfl)) rfl ?_
    refine so_lit1 rfl rfl rfl rfl rfl rfl rfl hyl (by decide) fun gl => ?_
    refine so_append 8 rfl rfl rfl rfl rfl rfl rfl rfl rfl (m := 1) (news := evC y) (fun w H => (H.blk (k := 0) rfl).sl (by rw [hyl]) (by decide)) hy1 (by omega) (fun _ => rfl) fun v' => ?_
    refine so_fact (fun w H => (H.oat (k := 8) rfl).form) ?_
    rintro ⟨A', c', rfl, _, _, _⟩
    (refine so_1 rfl ?_; refine so_s1 7 rfl rfl rfl rfl ?_; refine so_nil ?_; refine sn_block ?_; refine sn_then ?_; refine sw_region ?_; refine so_1 rfl ?_; refine so_2 rfl (by (unfold I64; omega)) ?_; refine so_1 rfl ?_; refine so_nil ?_)
    rw [show (i : Int) + 1 = ((i + 1 : Nat) : Int) by omega]
    refine sn_ent (G := evP y ++ all (evF D) :: (rfP g (.slice A B.length c0) s' :: pt g5 t_api_Letter (ltC (ltX k f t (.slice As sn.length cs) sn (.slice A' (D ++ [y]).length c'))) :: rEs (.slice A' (D ++ [y]).length c') (D ++ [y]) :: rZ (.slice As sn.length cs) sn :: pt g3 t_api_Fault [.int .i64 0, .int .i64 0] :: pt g2 t_api_Letter (ltC ltZ) :: F)) (by
      have e1 : evsC (D ++ [y]) = evsC D ++ evC y := by rw [evsC, flC_app, flC, flC, List.append_nil]
      have e2 : (D ++ [y]).length = D.length + 1 := by simp
      rw [hyP, rEs, e1, e2]; exact ent_keep 13 [3, 4, 9, 6, 7, 8, 10, 11, 12] rfl rfl) ?_
    refine sn_ent (ent_in (A := evF (D ++ [y])) evF_snoc) ?_
    refine sn_round (i + 1, .slice A' (D ++ [y]).length c', D ++ [y], s') ⟨rfl, rfl, rfl, rfl, rfl, rfl, rfl, trivial⟩ (ent_keep 4 [1, 2, 3, 0] rfl rfl) ⟨h6', ab, by simp; omega, fun h0 => ?_, fun h0 => ?_⟩ (by dsimp only; omega)
    · dsimp only at h0 ⊢
      have hA := hA (hst h0)
      have h9 : f1 = 0 := hor.resolve_right (fun h => h h0)
      rw [if_neg (by simp [h0]), if_neg (by simp [h9])] at hA
      rw [hm', hA, List.map_append, ← hyn]
      simp
    · dsimp only at h0 ⊢
      by_cases hse : s.e = 0
      · have hA := hA hse
        rw [if_pos h0] at hA
        exact ⟨_, hA⟩
      · have := hsk hse
        rw [this]
        exact hS hse
  obtain rfl : i = n := by omega
  rw [Nat.sub_self] at hA
  obtain ⟨evs0, hev, hev0⟩ : ∃ evs0, rEvs B i s5 = ((evs0, none), s) ∧ (s.e = 0 → evs0 = D.map nE) := by
    by_cases hse : s.e = 0
    · exact ⟨D.map nE, by rw [hA hse]; simp only [rEvs, List.append_nil], fun _ => rfl⟩
    · obtain ⟨e0, he0⟩ := hS hse
      exact ⟨e0, he0, fun h => absurd h hse⟩
  rw [hev] at hdec hfa
  dsimp only at hfa
  simp only [decTm] at hdec
  unfold decT3 at hdec
  dsimp only at hdec
  have hst3 := stuck3 (B := B) (s := s)
  (refine sw_exit ?_; refine sn_then_exit ?_; refine sn_loop_exit ?_; refine sn_block_exit ?_; refine sn_then ?_; refine sw_seq (sw_region ?_); refine so_1 rfl ?_)
  refine so_call rfl rfl rfl (rfDot_S (up hv (ent_keep 6 [] rfl rfl)) hB hb) ?_
  rintro _ _ ⟨rfl, rfl⟩
  have ad := go_at go_dot hat
  generalize rDot B s = q at *
  obtain ⟨⟨r, nn⟩, s6⟩ := q
  dsimp only at ad hdec hfa hst3 ⊢
  (refine so_1 rfl ?_; refine so_s1 1 rfl rfl rfl rfl ?_; refine so_nil (sn_then ?_); refine sw_seq (sw_region ?_); refine so_1 rfl ?_)
  refine so_call rfl rfl rfl (rfID_S (up hv (ent_keep 6 [] rfl rfl)) hB ad) ?_
  rintro _ _ ⟨rfl, rfl⟩
  have ai := go_at go_id ad
  have hid := rID_len ad
  generalize rID B s6 = q at *
  obtain ⟨id, s7⟩ := q
  dsimp only at ai hdec hfa hid hst3 ⊢
  (refine so_1 rfl ?_)
  refine so_stA (vs := u8s id) (cs' := ltC { ltX k f t (.slice As sn.length cs) sn (.slice Ae D.length ce) with r := r, n := nn, id := id }) 1 rfl rfl rfl rfl rfl rfl (by rw [u8s_len, hid]; rfl) (List.all_eq_true.2 (u8s_one _)) rfl (ltC_stid (x := { ltX k f t (.slice As sn.length cs) sn (.slice Ae D.length ce) with r := r, n := nn }) rfl hid) rfl ?_
  (refine so_nil (sn_then ?_); refine sw_seq (sw_region ?_); refine so_1 rfl ?_)
  refine so_call rfl rfl rfl (rfBytes_S (up hv (ent_keep 6 [] rfl rfl)) hB hb ai) ?_
  rintro bv _ rfl
  have hbb : byteOk (rBytes B 4096 s7).1 := (rTake_ok hb).1
  generalize rBytes B 4096 s7 = q at *
  obtain ⟨bs, s8⟩ := q
  dsimp only at hdec hfa hbb hst3 ⊢
  refine so_fact (fun w H => (H.oat (k := 0) rfl).form) ?_
  rintro ⟨Ab, cb, rfl, _, _, _⟩
  (refine so_1 rfl ?_)
  have y32 : ({ ltX k f t (.slice As sn.length cs) sn (.slice Ae D.length ce) with r := r, n := nn, id := id } : Lt).id.length = 32 := hid
  refine so_st 2 rfl rfl rfl rfl rfl rfl rfl rfl (ltC_stbv (v := .slice Ab bs.length cb) y32) rfl ?_
  have hyx : ({ ltX k f t (.slice As sn.length cs) sn (.slice Ae D.length ce) with r := r, n := nn, id := id, bv := .slice Ab bs.length cb } : Lt) = ⟨k, f, t, .slice As sn.length cs, sn, .slice Ae D.length ce, [], r, nn, id, .slice Ab bs.length cb, []⟩ := rfl
  have hyc : ltC (⟨k, f, t, .slice As sn.length cs, sn, .slice Ae D.length ce, [], r, nn, id, .slice Ab bs.length cb, []⟩ : Lt) = ltC (⟨k, f, t, .slice As sn.length cs, sn, .slice Ae D.length ce, D, r, nn, id, .slice Ab bs.length cb, bs⟩ : Lt) := rfl
  rw [hyx, hyc]
  have hyP : ltP (⟨k, f, t, .slice As sn.length cs, sn, .slice Ae D.length ce, D, r, nn, id, .slice Ab bs.length cb, bs⟩ : Lt) = [rZ (.slice As sn.length cs) sn, rEs (.slice Ae D.length ce) D, all (evF D), rB (.slice Ab bs.length cb) bs] := rfl
  have hyn : nL (⟨k, f, t, .slice As sn.length cs, sn, .slice Ae D.length ce, D, r, nn, id, .slice Ab bs.length cb, bs⟩ : Lt) = ⟨k, f, t, nS, sn, nS, D.map nE, r, nn, id, nS, bs⟩ := rfl
  have yl : (ltC (⟨k, f, t, .slice As sn.length cs, sn, .slice Ae D.length ce, D, r, nn, id, .slice Ab bs.length cb, bs⟩ : Lt)).length = 40 := ltC_len hid
  have y1 : ∀ u ∈ ltC (⟨k, f, t, .slice As sn.length cs, sn, .slice Ae D.length ce, D, r, nn, id, .slice Ab bs.length cb, bs⟩ : Lt), u.oneCell' = true := ltC_one rfl rfl rfl
  clear hyx hyc
  generalize (⟨k, f, t, .slice As sn.length cs, sn, .slice Ae D.length ce, D, r, nn, id, .slice Ab bs.length cb, bs⟩ : Lt) = y at hyP hyn yl y1 ⊢
  (refine so_nil (sn_then ?_); refine sw_seq (sw_region ?_); refine so_1 rfl ?_)
  refine so_call rfl rfl rfl ((rfEnd_S (F := rB (.slice Ab bs.length cb) bs :: pt g5 t_api_Letter (ltC y) :: rEs (.slice Ae D.length ce) D :: all (evF D) :: rZ (.slice As sn.length cs) sn :: pt g3 t_api_Fault [.int .i64 0, .int .i64 0] :: pt g2 t_api_Letter (ltC ltZ) :: F) (up hv (ent_keep 7 [] rfl rfl)) hB).ent (ent_keep 2 [1, 0] rfl rfl)) ?_
  rintro _ _ ⟨rfl, rfl⟩
  skip
  refine so_new rfl rfl rfl rfl rfl fun g13 => ?_
  have h0 : (rEnd B s8).1 = 0 → (rEnd B s8).2 = 0 := by
    unfold rEnd
    split
    · intro h; cases h
    · exact hfa
  have h1 : (rEnd B s8).1 = 0 → s8.e = 0 := by
    unfold rEnd
    split
    · intro h; cases h
    · exact fun h => h
  generalize rEnd B s8 = q at *
  obtain ⟨f1, f2⟩ := q
  dsimp only at hdec h0 h1 ⊢
  (refine so_s1 0 rfl rfl rfl rfl ?_; refine so_nil (sn_then ?_); (iterate 2 refine sw_seq ?_); refine sw_region ?_; refine so_1 rfl ?_; refine so_l 0 rfl rfl rfl ?_; refine so_1 rfl ?_; refine so_nil (sn_then ?_))
  refine sw_ifn rfl (fun h7 => ?_) (fun h7 => ?_)
  · rw [if_pos h7] at hdec
    (refine sw_seq ?_)
    refine sw_draw flo (pt g13 t_api_Fault [.int .i64 f1, .int .i64 f2] :: F) (by decide +kernel) (ent_keep 9 [0] rfl rfl) ?_
    (refine sd_1 rfl (.inl rfl) ?_; refine sd_l 0 rfl rfl rfl rfl ?_)
    refine sd_stW (vs := ltC ltZ) 8 rfl rfl rfl rfl rfl rfl rfl rfl rfl ltZ_one rfl (ent_keep 9 [0] rfl rfl) ?_
    refine sd_stW 7 rfl rfl rfl rfl rfl rfl rfl rfl rfl (by simp [Value.oneCell']) rfl (ent_keep 9 [0] rfl rfl) ?_
    refine sd_nil ?_
    (refine sn_then ?_; refine sw_ret ?_; refine sn_then_ret ?_)
    refine sn_ret rfl (.whole 8 rfl rfl rfl rfl rfl (.agg 7 rfl rfl rfl rfl rfl .nil)) ((ent_keep 9 [] rfl rfl).trans ent_ltZ) ?_
    rw [hdec]
    exact ⟨ltZ, rfl, rfl, rfl⟩
  have h8' := h0 h7
  have hev1 := hev0 (hst3 (h1 h7))
  subst h7; subst h8'
  rw [if_neg (by simp), hev1] at hdec
  (refine sw_skip ?_; refine sn_then ?_; refine sw_seq ?_)
  refine sw_draw flo (pt g13 t_api_Fault [.int .i64 0, .int .i64 0] :: pt g5 t_api_Letter (ltC y) :: F) (by decide +kernel) (ent_keep 9 [0, 3] rfl rfl) ?_
  skip
  refine sd_ldA 1 rfl rfl rfl rfl rfl rfl (segO_all (by rw [yl]; rfl)) rfl rfl ?_
  (refine sd_l 0 rfl rfl rfl rfl ?_)
  refine sd_stW (vs := ltC y) 8 rfl rfl rfl rfl rfl rfl rfl rfl yl y1 (by rw [yl]; rfl) (ent_keep 9 [0, 3] rfl rfl) ?_
  skip
  refine sd_stW 7 rfl rfl rfl rfl rfl rfl rfl rfl rfl (by simp [Value.oneCell']) rfl (ent_keep 9 [0, 3] rfl rfl) ?_
  refine sd_nil ?_
  (refine sn_then ?_; refine sw_ret ?_)
  refine sn_ret rfl (.whole 8 rfl rfl rfl rfl (by rw [yl]; rfl) (.agg 7 rfl rfl rfl rfl rfl .nil)) (ent_keep 9 [6, 4, 5, 2] rfl rfl) ?_
  refine ⟨y, ?_, ?_, ?_⟩
  · rw [hyn, hdec]
  · rw [hdec]; rfl
  · rw [hyP]; rfl
end
end Go.Proofs.YtmeiadgpglpelaaGreat
/- Letters: both decode alike (LetterDecodes). Conditions: none. -/
namespace Go.Proofs.YtmeiadgpglpelaaGreat
open Go Go.Eng Go.RowKit

/-- What is decoded is not much. -/
theorem rEvs_w (B : List Int) (n : Nat) (s : RS) : ∀ e ∈ (rEvs B n s).1.1, e.id.length = 32 ∧ len32 e.refs ∧ e.deps.length ≤ 16 ∧ e.refs.length ≤ 256 := by
  induction n generalizing s with
  | zero => exact fun e he => by cases he
  | succ n ih =>
    simp only [rEvs]
    split
    · exact fun e he => by cases he
    · split
      · exact fun e he => by cases he
      · intro e he
        rcases List.mem_cons.1 he with rfl | he
        · exact dec_w _
        · exact ih _ e he
structure LtW (x : Lt) : Prop where
  id : x.id.length = 32
  seen : x.seen.length ≤ 1000000
  bs : x.bs.length ≤ 1000000
  en : x.evs.length ≤ 1000000
  ev : ∀ e ∈ x.evs, (e.id.length = 32 ∧ len32 e.refs) ∧ (e.deps.length ≤ 1000000 ∧ e.refs.length ≤ 1000000)
theorem ltZ_w : LtW ltZ := ⟨rfl, Nat.zero_le _, Nat.zero_le _, Nat.zero_le _, fun e he => by cases he⟩
theorem rVec_len {B : List Int} {s : RS} : (rVec B 16 s).1.length ≤ 16 := by
  unfold rVec
  dsimp only
  split
  · simp
  · rename_i h9
    rw [rNums_len]
    have h0 : (rMany B 16 s).2.e = 0 := Decidable.byContradiction fun hne => h9 (by rw [rNums_stuck hne]; exact hne)
    have := rMany_le h0
    omega
theorem decT_w {B : List Int} (hB : B.length ≤ 1000000) (hb : byteOk B) : LtW (decT B).1 := by
  by_cases h1 : 262144 < B.length
  · unfold decT; rw [if_pos h1]; exact ltZ_w
  rw [decT_eq (by omega)]
  by_cases h3 : 8 < lCount (lAll B r0).1
  · rw [if_pos h3]; exact ltZ_w
  rw [if_neg h3]
  have hid := decT_id B
  rw [decT_eq (by omega), if_neg h3] at hid
  have h3' : ¬ 8 < (rNum B (rVec B 16 (rNum B (rNum B (rNum B r0).2).2).2).2).1 := h3
  cases hc : (lEvs (lAll B r0).1).2 with
  | some a => exact ltZ_w
  | none =>
    rw [hc] at hid
    simp only [decTm] at hid ⊢
    split at hid
    · rename_i h4; rw [if_pos h4]; exact ltZ_w
    · rename_i h4
      rw [if_neg h4]
      refine ⟨hid, ?_, ?_, ?_, ?_⟩
      · show (rVec B 16 _).1.length ≤ _
        have := rVec_len (B := B) (s := (rNum B (rNum B (rNum B r0).2).2).2)
        omega
      · show (rBytes B 4096 _).1.length ≤ _
        exact Nat.le_trans (rTake_ok hb).2 hB
      · show (rEvs B _ _).1.1.length ≤ _
        exact Nat.le_trans (rEvs_len B _ _) (by omega)
      · intro e he
        have := rEvs_w B _ _ e he
        exact ⟨⟨this.1, this.2.1⟩, by omega, by omega⟩
theorem ltW_n {x : Lt} (hw : LtW (nL x)) : LtW x := ⟨hw.id, hw.seen, hw.bs, by have := hw.en; simpa [nL] using this, fun e he => hw.ev (nE e) (List.mem_map_of_mem he)⟩
section
variable {b : World} {F : List SP}
theorem rDecodeL_S {B : List Int} {vb : Value} (hv : ∀ w, Sat b F w → VL (Value.int .u8) w vb B) (hB : B.length ≤ 1000000) (hb : byteOk B) :
    SC Tryz.prog n_entrepotref25_Decode [vb] b F (fun u F' => ∃ y : Lt, (nL y = (decT B).1 ∧ (ltC y).length = 40 ∧ ∀ u ∈ ltC y, u.oneCell' = true) ∧ u = .tuple ⟨[ltV y, ftV (decT B).2]⟩ ∧ F' = lP y :: F) := by
  refine Go.Proofs.YtmeiadgpglpelaaGreat.SC.gather (rDecodeT_S hv hB hb) ?_
  rintro _ _ w ⟨y, hy, rfl, rfl⟩ H
  have h32 : y.id.length = 32 := (congrArg (fun z : Lt => z.id.length) hy).trans (decT_id B)
  obtain ⟨q1, q2, q3⟩ := lr_form (lt_rows (y := y) (j1 := 0) (j2 := 1) (j3 := 2) (j4 := 3) rfl rfl rfl rfl w H)
  exact ⟨lP y :: F, ⟨y, ⟨hy, ltC_len h32, ltC_one q1 q2 q3⟩, rfl, rfl⟩, ent_close (G := ltP y)⟩
end
set_option maxRecDepth 20000 in
set_option maxHeartbeats 8000000 in
theorem walk_LetterDecodes {W : World} {v0 : Value} {xs : List Int} (h0 : VL (Value.int .u8) W v0 xs ∧ byteW xs) : Calls Tryz.prog n_entrepotlaw25_LetterDecodes #[v0] W (fun e w' => e = .returned (.bool true) ∧ Ext W w') := by
  refine law_of (args := [v0]) ?_
  obtain ⟨h0, hbw⟩ := h0
  have hb : byteOk xs := hbw
  obtain ⟨A, c, rfl, k1, k2, k3, k4⟩ := h0.form
  refine enterS F_entrepotlaw25_LetterDecodes rfl rfl rfl ?_
  (refine sw_seq (sw_region ?_); refine so_1 rfl ?_; refine so_nil (sn_then ?_); (iterate 2 refine sw_seq ?_); refine sw_region ?_; (iterate 3 refine so_1 rfl ?_); refine so_nil (sn_then ?_))
  refine sw_if rfl (fun h => ?_) (fun h => ?_)
  · (refine sw_seq (sw_region ?_))
    refine so_callE rfl rfl rfl (awake25_S) ?_
    (refine so_1 rfl ?_; refine so_nil (sn_then ?_); refine sw_ret ?_; refine sn_then_ret ?_)
    refine sn_ret rfl (.tmp rfl .nil) (Ent.refl _) ?_
    exact ⟨rfl, rfl⟩
  have hlen : xs.length ≤ 1000000 := by omega
  (refine sw_skip ?_; refine sn_then ?_; refine sw_seq (sw_region ?_); refine so_1 rfl ?_)
  refine so_call rfl rfl rfl (LentBytes_S hlen (is_vl h0 (k := 0) rfl)) ?_
  rintro _ _ ⟨A1, c1, rfl, rfl⟩
  (refine so_1 rfl ?_; refine so_nil (sn_then ?_); refine sw_seq (sw_region ?_); refine so_1 rfl ?_)
  have hw := decT_w hlen hb
  refine so_call rfl rfl rfl (DecodeL_S (rL_vl (k := 0) rfl) hlen hb) ?_
  rintro _ _ ⟨y, ⟨hy, yl, y1⟩, rfl, rfl⟩
  have yw : LtW y := ltW_n (by rw [hy]; exact hw)
  ((iterate 3 refine so_1 rfl ?_))
  refine so_new rfl rfl rfl rfl rfl fun g4 => ?_
  refine so_new rfl rfl rfl rfl rfl fun g5 => ?_
  refine so_stW 1 rfl rfl rfl rfl rfl rfl rfl yl y1 (by rw [yl]; rfl) ?_
  (refine so_s1 0 rfl rfl rfl rfl ?_; refine so_nil (sn_then ?_); refine sw_seq (sw_region ?_); refine so_1 rfl ?_)
  refine so_call rfl rfl rfl (rDecodeL_S (is_vl h0 (k := 4) rfl) hlen hb) ?_
  rintro _ _ ⟨z, ⟨hz, zl, z1⟩, rfl, rfl⟩
  ((iterate 3 refine so_1 rfl ?_))
  refine so_new rfl rfl rfl rfl rfl fun g6 => ?_
  refine so_new rfl rfl rfl rfl rfl fun g7 => ?_
  refine so_stW 1 rfl rfl rfl rfl rfl rfl rfl zl z1 (by rw [zl]; rfl) ?_
  (refine so_s1 0 rfl rfl rfl rfl ?_; refine so_nil (sn_then ?_); refine sw_seq (sw_region ?_))
  refine so_ldA 4 rfl rfl rfl rfl rfl rfl (segO_all (by rw [yl]; rfl)) rfl ?_
  refine so_ldA 1 rfl rfl rfl rfl rfl rfl (segO_all (by rw [zl]; rfl)) rfl ?_
  refine so_callE rfl rfl rfl (SameLetter_S (hy.trans hz.symm) (lP_lr (y := y) (k := 5) rfl) (lP_lr (y := z) (k := 2) rfl) yw.id (fun e he => ⟨(yw.ev e he).1.1, (yw.ev e he).1.2, (yw.ev e he).2.2⟩)) ?_
  (refine so_1 rfl ?_; refine so_l 3 rfl rfl rfl ?_; refine so_l 0 rfl rfl rfl ?_)
  refine so_pu rfl (pu_eqA rfl rfl (eq_fault (decT xs).2.1 (decT xs).2.2 (decT xs).2.1 (decT xs).2.2)) rfl ?_
  refine so_know 31 (.bool true) rfl (congrArg Value.bool (decide_eq_true ⟨rfl, rfl⟩)) ?_
  ((iterate 2 refine so_1 rfl ?_); refine so_nil (sn_then ?_); refine sw_seq (sw_region ?_))
  refine so_ldA 4 rfl rfl rfl rfl rfl rfl (segO_all (by rw [yl]; rfl)) rfl ?_
  refine so_lit1 rfl rfl rfl rfl rfl rfl rfl yl (by decide) fun gl => ?_
  have hev : ltsC [y] = ltC y := by simp [ltsC, flC]
  refine so_ent (G := rLs (.slice (some ⟨gl, 0, none⟩) 1 1) [y] :: all (ltsF [y]) :: rL A1 c1 xs :: [Is W]) (by
    rw [rLs, hev]
    exact (ent_blk_row (t := t_api_Letter) (sz := 40) (n := 1) (v := .slice (some ⟨gl, 0, none⟩) 1 1) rfl (by rw [yl]) (by decide) 0 rfl rfl).trans ((ent_keep 8 [6, 0, 7] rfl rfl).trans (ent_ltsF1.trans (ent_keep 2 [1, 0] rfl rfl)))) ?_
  refine so_call rfl rfl rfl (OverLetters_S (l := [y]) (fun x hx => by rw [List.mem_singleton.1 hx]; exact yw.id) (fun x hx => by rw [List.mem_singleton.1 hx]; exact ⟨yw.seen, yw.bs, yw.en, yw.ev⟩) (by show 1 ≤ 1000000; decide)) ?_
  rintro _ _ rfl
  (refine so_nil (sn_then ?_); refine sw_seq (sw_region ?_); (iterate 4 refine so_1 rfl ?_))
  refine so_call rfl rfl rfl ((KeptBytes_S hlen (is_vl h0 (k := 0) rfl))) ?_
  rintro _ _ ⟨rfl, rfl⟩
  ((iterate 2 refine so_1 rfl ?_))
  refine so_callE rfl rfl rfl (awake25_S) ?_
  ((iterate 2 refine so_1 rfl ?_); refine so_nil (sn_then ?_); refine sw_ret ?_)
  refine sn_ret rfl (.tmp rfl .nil) (ent_keep 1 [] rfl rfl) ?_
  exact ⟨rfl, rfl⟩
end Go.Proofs.YtmeiadgpglpelaaGreat
