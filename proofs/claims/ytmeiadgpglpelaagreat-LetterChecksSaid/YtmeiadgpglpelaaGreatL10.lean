/- Letters: the program's Note and Ship. Conditions: not too much. -/
import Derived.Test.YtmeiadgpglpelaaGreatL9
import Derived.Test.YtmeiadgpglpelaaGreatL8
import Derived.Test.YtmeiadgpglpelaaGreatL5
import Derived.Test.YtmeiadgpglpelaaGreatL3
import Derived.Test.YtmeiadgpglpelaaGreatL0
namespace Go.Proofs.YtmeiadgpglpelaaGreat
open Go Go.Eng Go.RowKit

/-- A Note; a Ship. -/
def noteL (e : Ev) (to' : Int) (seen : List Int) : Lt := ⟨1, e.r, to', nS, seen, nS, [e], 0, 0, List.replicate 32 0, nS, []⟩
def shipL (x : Lt) (bs : List Int) (seen : List Int) : Lt := ⟨5, x.to', x.from', nS, seen, nS, [], x.r, x.n, x.id, nS, bs⟩
/-- A letter that is made, ahead of its options. -/
def ltM (k f t : Int) (sv : Value) (seen : List Int) : Lt := ⟨k, f, t, sv, seen, nS, [], 0, 0, List.replicate 32 0, nS, []⟩
abbrev optV (f : Nat) (caps : List Value) : Value := .func (.func f) ⟨[]⟩ ⟨caps⟩
section
variable {b : World} {F : List SP}
theorem of_S {e : Ev} : SC Tryz.prog n_letter_of [evV e] b F (fun u F' => ∃ g, u = optV n_letter_of_1 [.pointer (some ⟨g, 0, none⟩)] ∧ F' = pt g t_api_Event (evC e) :: F) := by
  refine enterS F_letter_of rfl rfl rfl ?_
  (refine sw_seq (sw_region ?_))
  refine so_box rfl rfl rfl rfl rfl fun g => ?_
  (refine so_1 rfl ?_; refine so_nil (sn_then ?_); refine sw_seq (sw_region ?_); (iterate 2 refine so_1 rfl ?_); refine so_nil (sn_then ?_); refine sw_ret ?_)
  refine sn_ret rfl (.tmp rfl .nil) (Ent.refl _) ?_
  exact ⟨g, rfl, rfl⟩
theorem about_S {r n : Int} {id : List Int} : SC Tryz.prog n_letter_about [dotV r n, idV id] b F (fun u F' => ∃ g h, u = optV n_letter_about_1 [.pointer (some ⟨g, 0, none⟩), .pointer (some ⟨h, 0, none⟩)] ∧ F' = pt h t_api_ID (u8s id) :: pt g t_api_Dot [.int .i64 r, .int .i64 n] :: F) := by
  refine enterS F_letter_about rfl rfl rfl ?_
  (refine sw_seq (sw_region ?_))
  refine so_box rfl rfl rfl rfl rfl fun g => ?_
  refine so_box rfl rfl rfl rfl rfl fun h => ?_
  (refine so_1 rfl ?_; refine so_nil (sn_then ?_); refine sw_seq (sw_region ?_); (iterate 2 refine so_1 rfl ?_); refine so_nil (sn_then ?_); refine sw_ret ?_)
  refine sn_ret rfl (.tmp rfl .nil) (Ent.refl _) ?_
  exact ⟨g, h, rfl, rfl⟩
theorem with_S {A : Option Addr} {n c : Nat} : SC Tryz.prog n_letter_with [.slice A n c] b F (fun u F' => ∃ g, u = optV n_letter_with_1 [.pointer (some ⟨g, 0, none⟩)] ∧ F' = pt g t_sl_uint8 [.slice A n c] :: F) := by
  refine enterS F_letter_with rfl rfl rfl ?_
  (refine sw_seq (sw_region ?_))
  refine so_box rfl rfl rfl rfl rfl fun g => ?_
  (refine so_1 rfl ?_; refine so_nil (sn_then ?_); refine sw_seq (sw_region ?_); (iterate 2 refine so_1 rfl ?_); refine so_nil (sn_then ?_); refine sw_ret ?_)
  refine sn_ret rfl (.tmp rfl .nil) (Ent.refl _) ?_
  exact ⟨g, rfl, rfl⟩
set_option maxRecDepth 20000 in
set_option maxHeartbeats 2000000 in
theorem of1_S {gl ge : Nat} {x : Lt} {e : Ev} (h32 : e.id.length = 32) (he : ∀ w, Sat b F w → ER w e) (hd : e.deps.length ≤ 1000000) (hl : e.refs.length ≤ 1000000) :
    SC Tryz.prog n_letter_of_1 [.pointer (some ⟨gl, 0, none⟩), .pointer (some ⟨ge, 0, none⟩)] b (pt gl t_api_Letter (ltC x) :: pt ge t_api_Event (evC e) :: F)
      (fun _ F' => ∃ dv rv gs, F' = pt gl t_api_Letter (ltC { x with ev := .slice (some ⟨gs, 0, none⟩) 1 1, evs := [e.own dv rv] }) :: pt ge t_api_Event (evC (e.own dv rv)) :: rEs (.slice (some ⟨gs, 0, none⟩) 1 1) [e.own dv rv] :: all (evF [e.own dv rv]) :: F) := by
  have her : ∀ w, Sat b (pt gl t_api_Letter (ltC x) :: pt ge t_api_Event (evC e) :: F) w → ER w e := up he (ent_keep 2 [] rfl rfl)
  refine enterS F_letter_of_1 rfl rfl rfl ?_
  (refine sw_seq ?_)
  refine sw_draw2 flo 7 (pt ge t_api_Event (evC e) :: F) [] rfl (by decide +kernel) (ent_keep 2 [1] rfl rfl) ?_
  (refine sd_1 rfl (.inl rfl) ?_; refine sd_l 0 rfl rfl rfl rfl ?_)
  refine sd_call rfl rfl rfl rfl (Clone_ints (fun w H => (her w H).dv) hd) ?_
  rintro dv _ rfl
  refine ⟨ent_keep 3 [2] rfl rfl, ?_⟩
  (refine sd_1 rfl (.inl rfl) ?_)
  refine sd_ld 0 rfl rfl rfl rfl rfl rfl (evC_rv h32) rfl rfl ?_
  refine sd_call rfl rfl rfl rfl (Clone_ids (fun w H => (her w (H.ent (ent_keep 1 [] rfl rfl))).rv) hl) ?_
  rintro rv _ rfl
  refine ⟨ent_keep 4 [3] rfl rfl, ?_⟩
  (refine sd_1 rfl (.inl rfl) ?_)
  refine sd_nil (sn_draw2 rfl (ent_nil _) ?_)
  refine sd_fact (fun w H => (H.oat (k := 1) rfl).form) ?_
  rintro ⟨A1, c1, rfl, _, _, _⟩
  refine sd_fact (fun w H => (H.oat (k := 0) rfl).form) ?_
  rintro ⟨A2, c2, rfl, _, _, _⟩
  refine sd_st 3 rfl rfl rfl rfl rfl rfl rfl rfl rfl (show stO (evC e) 2 _ = some (evC { e with dv := .slice A1 e.deps.length c1 }) from rfl) rfl (ent_nil _) ?_
  (refine sd_1 rfl (.inl rfl) ?_)
  refine sd_st 3 rfl rfl rfl rfl rfl rfl rfl rfl rfl (evC_strv (e := { e with dv := .slice A1 e.deps.length c1 }) h32) rfl (ent_nil _) ?_
  have hyl := evC_len (e := e.own (.slice A1 e.deps.length c1) (.slice A2 e.refs.length c2)) h32
  have hy1 := evC_one (e := e.own (.slice A1 e.deps.length c1) (.slice A2 e.refs.length c2)) rfl rfl
  have hyP : evF [e.own (.slice A1 e.deps.length c1) (.slice A2 e.refs.length c2)] = [rZ (.slice A1 e.deps.length c1) e.deps, rD (.slice A2 e.refs.length c2) e.refs] := rfl
  refine sd_fact (p := ∃ y, y = e.own (.slice A1 e.deps.length c1) (.slice A2 e.refs.length c2)) (fun _ _ => ⟨_, rfl⟩) ?_
  rintro ⟨y, hy⟩
  have hev : ({ { e with dv := .slice A1 e.deps.length c1 } with rv := .slice A2 e.refs.length c2 } : Ev) = y := hy.symm
  rw [← hy] at hyl hy1 hyP
  rw [hev]
  refine sd_nil ?_
  (refine sn_then ?_; refine sw_region ?_; refine so_1 rfl ?_)
  refine so_ldA 3 rfl rfl rfl rfl rfl rfl (segO_all (by rw [hyl]; rfl)) rfl ?_
  refine so_lit1 rfl rfl rfl rfl rfl rfl rfl hyl (by decide) fun gs => ?_
  ((iterate 2 refine so_1 rfl ?_); refine so_s1 3 rfl rfl rfl rfl ?_; refine so_nil ?_)
  refine sn_end rfl .nil (G := pt gl t_api_Letter (ltC { x with ev := .slice (some ⟨gs, 0, none⟩) 1 1, evs := [y] }) :: pt ge t_api_Event (evC y) :: rEs (.slice (some ⟨gs, 0, none⟩) 1 1) [y] :: all (evF [y]) :: F) ?_ ?_
  · have e1 : evsC [y] = evC y := by rw [evsC, flC, flC, List.append_nil]
    rw [hyP, rEs, e1]
    refine (ent_blk_row (t := t_api_Event) (sz := 39) (n := 1) (v := .slice (some ⟨gs, 0, none⟩) 1 1) rfl (by rw [hyl]) (by decide) 0 rfl rfl).trans ?_
    exact (ent_keep 5 [2, 1, 3, 4, 0] rfl rfl).trans ((ent_close (G := [rZ (.slice A1 e.deps.length c1) e.deps, rD (.slice A2 e.refs.length c2) e.refs])).trans (ent_keep 4 [1, 2, 3, 0] rfl rfl))
  · exact ⟨.slice A1 e.deps.length c1, .slice A2 e.refs.length c2, gs, by rw [← hy]⟩
set_option maxRecDepth 20000 in
theorem about1_S {gl gd gi jd ji : Nat} {x : Lt} {r n : Int} {id : List Int} (h32 : x.id.length = 32) (hid : id.length = 32) (hd : nth F jd = some (pt gd t_api_Dot [.int .i64 r, .int .i64 n])) (hi : nth F ji = some (pt gi t_api_ID (u8s id))) :
    SC Tryz.prog n_letter_about_1 [.pointer (some ⟨gl, 0, none⟩), .pointer (some ⟨gd, 0, none⟩), .pointer (some ⟨gi, 0, none⟩)] b (pt gl t_api_Letter (ltC x) :: F) (fun _ F' => F' = pt gl t_api_Letter (ltC { x with r := r, n := n, id := id }) :: F) := by
  refine enterS F_letter_about_1 rfl rfl rfl ?_
  skip
  refine sw_draw flo F (by decide +kernel) (ent_keep 1 [] rfl rfl) ?_
  ((iterate 2 refine sd_1 rfl (.inl rfl) ?_))
  refine sd_ldA jd rfl rfl rfl rfl rfl hd (segO_all (cs := [.int .i64 r, .int .i64 n]) rfl) rfl rfl ?_
  refine sd_ldA ji rfl rfl rfl rfl rfl hi (segO_all (cs := u8s id) (by rw [u8s_len, hid]; rfl)) rfl rfl ?_
  ((iterate 2 refine sd_1 rfl (.inl rfl) ?_))
  refine sd_stA (vs := [.int .i64 r, .int .i64 n]) (cs' := ltC { x with r := r, n := n }) 0 rfl rfl rfl rfl rfl rfl rfl rfl rfl rfl ltC_stdot rfl (ent_keep 1 [] rfl rfl) ?_
  ((iterate 2 refine sd_1 rfl (.inl rfl) ?_))
  refine sd_stA (vs := u8s id) (cs' := ltC { x with r := r, n := n, id := id }) 0 rfl rfl rfl rfl rfl rfl rfl (by rw [u8s_len, hid]; rfl) (List.all_eq_true.2 (u8s_one _)) rfl (ltC_stid (x := { x with r := r, n := n }) h32 hid) rfl (ent_keep 1 [] rfl rfl) ?_
  refine sd_nil ?_
  skip
  refine sn_end rfl .nil (Ent.refl _) ?_
  rfl
theorem with1_S {gl gb jb : Nat} {x : Lt} {vb : Value} {xs : List Int} (h32 : x.id.length = 32) (hb : nth F jb = some (pt gb t_sl_uint8 [vb])) (hv : ∀ w, Sat b F w → VL (Value.int .u8) w vb xs) (hl : xs.length ≤ 1000000) :
    SC Tryz.prog n_letter_with_1 [.pointer (some ⟨gl, 0, none⟩), .pointer (some ⟨gb, 0, none⟩)] b (pt gl t_api_Letter (ltC x) :: F) (fun _ F' => ∃ A c, F' = pt gl t_api_Letter (ltC { x with bv := .slice A xs.length c }) :: rB (.slice A xs.length c) xs :: F) := by
  refine enterS F_letter_with_1 rfl rfl rfl ?_
  (refine sw_region ?_; refine so_1 rfl ?_)
  refine so_ld (jb + 1) rfl rfl rfl rfl rfl hb rfl rfl ?_
  refine so_call rfl rfl rfl (CloneB_S (up hv (ent_keep 1 [] rfl rfl)) hl) ?_
  rintro bv _ rfl
  refine so_fact (fun w H => (H.oat (k := 0) rfl).form) ?_
  rintro ⟨A, c, rfl, _, _, _⟩
  ((iterate 2 refine so_1 rfl ?_))
  refine so_st 1 rfl rfl rfl rfl rfl rfl rfl rfl (ltC_stbv h32) rfl ?_
  (refine so_nil ?_)
  refine sn_end rfl .nil (ent_keep 2 [1, 0] rfl rfl) ?_
  exact ⟨_, _, rfl⟩
set_option maxRecDepth 20000 in
set_option maxHeartbeats 2000000 in
/-- A letter is made of options: J: how it stands, and what memory it has, behind the first ones. -/
theorem made_S {k f t : Int} {vs : Value} {seen : List Int} {gl q : Nat} {opts : List Value} {G0 : List SP} (J : Nat → Lt → List SP → Prop) (hs : ∀ w, Sat b (G0 ++ F) w → VL (Value.int .i64) w vs seen) (hl : seen.length ≤ 1000000) (hq : nth F q = some (pt gl t_letter_option opts)) (ho : opts.length ≤ 1000)
    (h0 : ∀ A c, J 0 (ltM k f t (.slice A seen.length c) seen) (rZ (.slice A seen.length c) seen :: G0))
    (hstep : ∀ i g x G A, i < opts.length → J i x G → ∃ fn caps, opts[i]? = some (optV fn caps) ∧ Bodied Tryz.prog fn ∧ SC Tryz.prog fn (.pointer (some ⟨g, 0, none⟩) :: caps) b (pt g t_api_Letter (ltC x) :: (G ++ (A :: F))) (fun _ F' => ∃ x' G', J (i + 1) x' G' ∧ F' = pt g t_api_Letter (ltC x') :: (G' ++ (A :: F))))
    (hend : ∀ x G, J opts.length x G → x.id.length = 32 ∧ x.sv.oneCell' = true ∧ x.ev.oneCell' = true ∧ x.bv.oneCell' = true) :
    SC Tryz.prog n_letter_made [.int .i64 k, .int .i64 f, .int .i64 t, vs, .slice (some ⟨gl, 0, none⟩) opts.length opts.length] b (G0 ++ F) (fun u F' => ∃ x G, J opts.length x G ∧ u = ltV x ∧ F' = G ++ F) := by
  refine enterS F_letter_made rfl rfl rfl ?_
  (refine sw_seq (sw_region ?_))
  refine so_new rfl rfl rfl rfl rfl fun g10 => ?_
  (refine so_nil (sn_then ?_); refine sw_seq (sw_region ?_); (iterate 4 refine so_1 rfl ?_))
  refine so_call rfl rfl rfl (Clone_ints (up hs (ent_keep 1 [] rfl rfl)) hl) ?_
  rintro sv _ rfl
  refine so_fact (fun w H => (H.oat (k := 0) rfl).form) ?_
  rintro ⟨A, c, rfl, _, _, _⟩
  (refine so_1 rfl ?_)
  refine so_new rfl rfl rfl rfl rfl fun g11 => ?_
  refine so_know 19 (ltV (ltM k f t (.slice A seen.length c) seen)) rfl rfl ?_
  have m32 : (ltM k f t (.slice A seen.length c) seen).id.length = 32 := rfl
  have ml := ltC_len m32
  have m1 := ltC_one (x := ltM k f t (.slice A seen.length c) seen) rfl rfl rfl
  refine so_stW 0 rfl rfl rfl rfl rfl rfl rfl ml m1 (by rw [ml]; rfl) ?_
  (refine so_nil (sn_then ?_); (iterate 2 refine sw_seq ?_); refine sw_region ?_; (iterate 3 refine so_1 rfl ?_); refine so_nil (sn_then ?_); refine sw_block ?_)
  refine sw_loop (S := Nat × Lt × List SP) (fun s => [(10, .pointer (some ⟨g10, 0, none⟩)), (11, .pointer (some ⟨g11, 0, none⟩)), (20, .slice (some ⟨gl, 0, none⟩) opts.length opts.length), (21, .int .i64 (opts.length : Int)), (22, .int .i64 (s.1 : Int))])
    (fun s => pt g11 t_api_Letter (ltC s.2.1) :: (s.2.2 ++ (pt g10 t_api_Letter (ltC ltZ) :: F))) (fun s => s.1 ≤ opts.length ∧ J s.1 s.2.1 s.2.2) (fun s => opts.length - s.1) (0, ltM k f t (.slice A seen.length c) seen, rZ (.slice A seen.length c) seen :: G0) ⟨rfl, rfl, rfl, rfl, rfl, trivial⟩ ?_ ⟨Nat.zero_le _, h0 _ _⟩ ?_
  · refine ent_perm (.cons _ ?_)
    show List.Perm (rZ (.slice A seen.length c) seen :: pt g10 t_api_Letter _ :: (G0 ++ F)) (rZ (.slice A seen.length c) seen :: (G0 ++ (pt g10 t_api_Letter (ltC ltZ) :: F)))
    exact .cons _ List.perm_middle.symm
  rintro ⟨i, x, G⟩ ⟨hi, hJ⟩
  dsimp only at hi hJ ⊢
  (refine sw_seq (sw_region ?_); refine so_1 rfl ?_; refine so_nil (sn_then ?_); refine sw_seq ?_)
  refine sw_if rfl (fun h5 => ?_) (fun h5 => ?_)
  · have h5' : i < opts.length := by omega
    obtain ⟨fn, caps, hv, hb, hsc⟩ := hstep i g11 x G (pt g10 t_api_Letter (ltC ltZ)) h5' hJ
    have hqn : ∀ {X : SP}, nth (X :: (G ++ (pt g10 t_api_Letter (ltC ltZ) :: F))) (G.length + 2 + q) = some (pt gl t_letter_option opts) := fun {X} => by
      show nth (X :: (G ++ (pt g10 t_api_Letter (ltC ltZ) :: F))) (G.length + 2 + q) = _
      rw [show G.length + 2 + q = (G.length + (q + 1)) + 1 by omega]
      show nth (G ++ (pt g10 t_api_Letter (ltC ltZ) :: F)) (G.length + (q + 1)) = _
      rw [nth_append, if_neg (by omega), show G.length + (q + 1) - G.length = q + 1 by omega]
      exact hq
    (refine sw_skip ?_; refine sn_then ?_; refine sw_seq ?_; refine sw_block ?_; refine sw_seq (sw_region ?_); refine so_2 rfl (by omega) ?_)
    refine so_rd rfl (fun w H => ex_load rfl rfl rfl (by rw [mulz_eq, Int.toNat_natCast, Nat.mul_one]; rw [(H.blk hqn).cell]; simpa using hv)) rfl ?_
    (refine so_1 rfl ?_; refine so_nil (sn_then ?_); refine sw_region ?_; refine so_1 rfl ?_)
    refine so_call rfl rfl rfl hsc ?_
    rintro _ _ ⟨x', G', hJ', rfl⟩
    (refine so_nil ?_; refine sn_block ?_; refine sn_then ?_; refine sw_region ?_; refine so_2 rfl (by (unfold I64; omega)) ?_; refine so_1 rfl ?_; refine so_nil ?_)
    rw [show (i : Int) + 1 = ((i + 1 : Nat) : Int) by omega]
    exact sn_round (i + 1, x', G') ⟨rfl, rfl, rfl, rfl, rfl, trivial⟩ (Ent.refl _) ⟨h5', hJ'⟩ (by dsimp only; omega)
  obtain rfl : i = opts.length := by omega
  obtain ⟨e1, e2, e3, e4⟩ := hend x G hJ
  have xl := ltC_len e1
  have x1 := ltC_one e2 e3 e4
  refine sw_ent (G := pt g11 t_api_Letter (ltC x) :: pt g10 t_api_Letter (ltC ltZ) :: (G ++ F)) (ent_perm (.cons _ List.perm_middle)) ?_
  (refine sw_exit ?_; refine sn_then_exit ?_; refine sn_loop_exit ?_; refine sn_block_exit ?_; refine sn_then ?_; refine sw_seq (sw_region ?_))
  refine so_ldA 0 rfl rfl rfl rfl rfl rfl (segO_all (by rw [xl]; rfl)) rfl ?_
  refine so_stW 1 rfl rfl rfl rfl rfl rfl rfl xl x1 (by rw [xl]; rfl) ?_
  (refine so_nil (sn_then ?_); refine sw_ret ?_)
  refine sn_ret rfl (.whole 1 rfl rfl rfl rfl (by rw [xl]; rfl) .nil) (ent_keep 2 [] rfl rfl) ?_
  exact ⟨x, G, hJ, rfl, rfl⟩
end
end Go.Proofs.YtmeiadgpglpelaaGreat
/- Letters: the program's Note and Ship, on. Conditions: not too much. -/
namespace Go.Proofs.YtmeiadgpglpelaaGreat
open Go Go.Eng Go.RowKit

/-- How a Note stands behind its options. -/
def JN (ge : Nat) (e : Ev) (to' : Int) (seen : List Int) : Nat → Lt → List SP → Prop
  | 0, x, G => ∃ A c, x = ltM 1 e.r to' (.slice A seen.length c) seen ∧ G = [rZ (.slice A seen.length c) seen, pt ge t_api_Event (evC e)]
  | _ + 1, x, G => ∃ A c dv rv gs, x = { ltM 1 e.r to' (.slice A seen.length c) seen with ev := .slice (some ⟨gs, 0, none⟩) 1 1, evs := [e.own dv rv] } ∧
      G = [pt ge t_api_Event (evC (e.own dv rv)), rEs (.slice (some ⟨gs, 0, none⟩) 1 1) [e.own dv rv], all (evF [e.own dv rv]), rZ (.slice A seen.length c) seen]
/-- How a Ship stands behind its options. -/
def JS (gd gi gb : Nat) (a : Lt) (vb : Value) (bs seen : List Int) : Nat → Lt → List SP → Prop
  | 0, x, G => ∃ A c, x = ltM 5 a.to' a.from' (.slice A seen.length c) seen ∧ G = [rZ (.slice A seen.length c) seen]
  | 1, x, G => ∃ A c, x = { ltM 5 a.to' a.from' (.slice A seen.length c) seen with r := a.r, n := a.n, id := a.id } ∧ G = [rZ (.slice A seen.length c) seen]
  | _ + 2, x, G => ∃ A c A2 c2, x = { ltM 5 a.to' a.from' (.slice A seen.length c) seen with r := a.r, n := a.n, id := a.id, bv := .slice A2 bs.length c2, bs := bs } ∧ G = [rB (.slice A2 bs.length c2) bs, rZ (.slice A seen.length c) seen]
section
variable {b : World} {F : List SP}
set_option maxRecDepth 20000 in
set_option maxHeartbeats 400000 in
theorem Note_S {e : Ev} {to' : Int} {vs : Value} {seen : List Int} (h32 : e.id.length = 32) (he : ∀ w, Sat b F w → ER w e) (hd : e.deps.length ≤ 1000000) (hr : e.refs.length ≤ 1000000) (hs : ∀ w, Sat b F w → VL (Value.int .i64) w vs seen) (hl : seen.length ≤ 1000000) :
    SC Tryz.prog n_letter_Note [evV e, .int .i64 to', vs] b F (fun u F' => ∃ y : Lt, nL y = nL (noteL e to' seen) ∧ u = ltV y ∧ F' = ltP y ++ F) := by
  refine enterS F_letter_Note rfl rfl rfl ?_
  have xl := evC_len h32
  (refine sw_seq (sw_region ?_))
  refine so_box rfl rfl rfl rfl rfl fun g3 => ?_
  refine so_new rfl rfl rfl rfl rfl fun g6 => ?_
  (refine so_nil (sn_then ?_); refine sw_seq ?_)
  refine sw_draw flo (pt g3 t_api_Event (evC e) :: F) (by decide +kernel) (ent_keep 2 [1] rfl rfl) ?_
  ((iterate 2 refine sd_1 rfl (.inl rfl) ?_); refine sd_l 0 rfl rfl rfl rfl ?_; (iterate 2 refine sd_1 rfl (.inl rfl) ?_))
  refine sd_ldA 0 rfl rfl rfl rfl rfl rfl (segO_all (by rw [xl]; rfl)) rfl rfl ?_
  refine sd_call rfl rfl rfl rfl of_S ?_
  rintro _ _ ⟨ge, rfl, rfl⟩
  refine ⟨ent_keep 3 [2] rfl rfl, ?_⟩
  refine sd_lit [optV n_letter_of_1 [.pointer (some ⟨ge, 0, none⟩)]] rfl rfl rfl rfl rfl rfl rfl rfl rfl rfl (ent_keep 3 [2] rfl rfl) fun gl => ?_
  refine sd_ent (ent_keep 2 [1, 0] rfl rfl) ?_
  have hm := made_S (b := b) (k := 1) (f := e.r) (t := to') (vs := vs) (seen := seen) (gl := gl) (opts := [optV n_letter_of_1 [.pointer (some ⟨ge, 0, none⟩)]]) (F := pt gl t_letter_option [optV n_letter_of_1 [.pointer (some ⟨ge, 0, none⟩)]] :: pt g6 t_api_Letter (ltC ltZ) :: pt g3 t_api_Event (evC e) :: F) (G0 := [pt ge t_api_Event (evC e)]) (q := 0) (JN ge e to' seen) (up hs (ent_keep 4 [] rfl rfl)) hl rfl (Nat.le_of_ble_eq_true rfl) (fun A c => ⟨A, c, rfl, rfl⟩) ?_ ?_
  rotate_left
  · rintro i g x G A hi hJ
    obtain rfl : i = 0 := by simp at hi; omega
    obtain ⟨A1, c1, rfl, rfl⟩ := hJ
    refine ⟨n_letter_of_1, [.pointer (some ⟨ge, 0, none⟩)], rfl, inferInstance, ?_⟩
    refine ((of1_S (F := rZ (.slice A1 seen.length c1) seen :: A :: pt gl t_letter_option [optV n_letter_of_1 [.pointer (some ⟨ge, 0, none⟩)]] :: pt g6 t_api_Letter (ltC ltZ) :: pt g3 t_api_Event (evC e) :: F) h32 (up he (ent_keep 5 [] rfl rfl)) hd hr).ent (ent_keep 3 [0, 2, 1] rfl rfl)).mono ?_
    rintro _ _ ⟨dv, rv, gs, rfl⟩
    exact ⟨_, _, ⟨A1, c1, dv, rv, gs, rfl, rfl⟩, rfl⟩
  · rintro x G ⟨A1, c1, dv, rv, gs, rfl, rfl⟩
    exact ⟨rfl, rfl, rfl, rfl⟩
  refine sd_call rfl rfl rfl rfl hm ?_
  rintro _ _ ⟨x, G, ⟨A1, c1, dv, rv, gs, hx, rfl⟩, rfl, rfl⟩
  refine ⟨ent_keep 7 [6] rfl rfl, ?_⟩
  have y32 : x.id.length = 32 := by rw [hx]; rfl
  have yl := ltC_len y32
  have y1 := ltC_one (x := x) (by rw [hx]; rfl) (by rw [hx]; rfl) (by rw [hx]; rfl)
  refine sd_stW (vs := ltC x) 5 rfl rfl rfl rfl rfl rfl rfl rfl yl y1 (by rw [yl]; rfl) (ent_keep 7 [6] rfl rfl) ?_
  refine sd_nil ?_
  (refine sn_then ?_; refine sw_ret ?_)
  refine sn_ret rfl (.whole 5 rfl rfl rfl rfl (by rw [yl]; rfl) .nil) ((ent_keep 7 [3, 1, 2] rfl rfl).trans ((ent_row_nil t_uint8 1 rfl).trans (ent_keep 4 [1, 2, 3, 0] rfl rfl))) ?_
  refine ⟨x, ?_, rfl, ?_⟩
  · rw [hx]; rfl
  · rw [hx]; rfl
set_option maxRecDepth 20000 in
set_option maxHeartbeats 400000 in
theorem Ship_S {a : Lt} {vb vs : Value} {bs seen : List Int} (h32 : a.id.length = 32) (hb : ∀ w, Sat b F w → VL (Value.int .u8) w vb bs) (hbl : bs.length ≤ 1000000) (hs : ∀ w, Sat b F w → VL (Value.int .i64) w vs seen) (hl : seen.length ≤ 1000000) :
    SC Tryz.prog n_letter_Ship [ltV a, vb, vs] b F (fun u F' => ∃ y : Lt, nL y = nL (shipL a bs seen) ∧ u = ltV y ∧ F' = ltP y ++ F) := by
  refine enterS F_letter_Ship rfl rfl rfl ?_
  refine sw_fact (fun w H => (hb w H).form) ?_
  rintro ⟨Ab, cb, rfl, _, _, _, _⟩
  (refine sw_seq (sw_region ?_))
  refine so_box rfl rfl rfl rfl rfl fun g3 => ?_
  refine so_new rfl rfl rfl rfl rfl fun g6 => ?_
  (refine so_nil (sn_then ?_); refine sw_seq ?_)
  refine sw_draw flo (pt g3 t_api_Letter (ltC a) :: F) (by decide +kernel) (ent_keep 2 [1] rfl rfl) ?_
  (refine sd_1 rfl (.inl rfl) ?_; refine sd_l 0 rfl rfl rfl rfl ?_; refine sd_1 rfl (.inl rfl) ?_; refine sd_l 0 rfl rfl rfl rfl ?_; (iterate 2 refine sd_1 rfl (.inl rfl) ?_))
  refine sd_ldA 0 rfl rfl rfl rfl rfl rfl ltC_dot rfl rfl ?_
  (refine sd_1 rfl (.inl rfl) ?_)
  refine sd_ldA 0 rfl rfl rfl rfl rfl rfl (ltC_id h32) rfl rfl ?_
  refine sd_call rfl rfl rfl rfl about_S ?_
  rintro _ _ ⟨gd, gi, rfl, rfl⟩
  refine ⟨ent_keep 4 [3] rfl rfl, ?_⟩
  (refine sd_1 rfl (.inl rfl) ?_)
  refine sd_call rfl rfl rfl rfl with_S ?_
  rintro _ _ ⟨gb, rfl, rfl⟩
  refine ⟨ent_keep 5 [4] rfl rfl, ?_⟩
  refine sd_lit [optV n_letter_about_1 [.pointer (some ⟨gd, 0, none⟩), .pointer (some ⟨gi, 0, none⟩)], optV n_letter_with_1 [.pointer (some ⟨gb, 0, none⟩)]] rfl rfl rfl rfl rfl rfl rfl rfl rfl rfl (ent_keep 5 [4] rfl rfl) fun gl => ?_
  refine sd_call rfl rfl rfl rfl (made_S (G0 := []) (opts := [optV n_letter_about_1 [.pointer (some ⟨gd, 0, none⟩), .pointer (some ⟨gi, 0, none⟩)], optV n_letter_with_1 [.pointer (some ⟨gb, 0, none⟩)]]) (q := 0) (JS gd gi gb a (.slice Ab bs.length cb) bs seen) (up hs (ent_keep 6 [] rfl rfl)) hl rfl (Nat.le_of_ble_eq_true rfl) (fun A c => ⟨A, c, rfl, rfl⟩) ?_ ?_) ?_
  · rintro i g x G A hi hJ
    match i, hi, hJ with
    | 0, _, ⟨A1, c1, hx, hG⟩ =>
      subst hx; subst hG
      refine ⟨n_letter_about_1, _, rfl, inferInstance, ?_⟩
      refine SC.mono (about1_S (jd := 5) (ji := 4) rfl h32 rfl rfl) ?_
      rintro _ _ rfl
      exact ⟨_, _, ⟨A1, c1, rfl, rfl⟩, rfl⟩
    | 1, _, ⟨A1, c1, hx, hG⟩ =>
      subst hx; subst hG
      refine ⟨n_letter_with_1, _, rfl, inferInstance, ?_⟩
      refine SC.mono (with1_S (jb := 3) h32 rfl (up hb (ent_keep 8 [] rfl rfl)) hbl) ?_
      rintro _ _ ⟨A2, c2, rfl⟩
      exact ⟨_, _, ⟨A1, c1, A2, c2, rfl, rfl⟩, rfl⟩
    | i + 2, hi, _ => simp at hi; omega
  · rintro x G ⟨A1, c1, A2, c2, rfl, rfl⟩
    exact ⟨h32, rfl, rfl, rfl⟩
  rintro _ _ ⟨x, G, ⟨A1, c1, A2, c2, hx, rfl⟩, rfl, rfl⟩
  refine ⟨ent_keep 8 [7] rfl rfl, ?_⟩
  have y32 : x.id.length = 32 := by rw [hx]; exact h32
  have yl := ltC_len y32
  have y1 := ltC_one (x := x) (by rw [hx]; rfl) (by rw [hx]; rfl) (by rw [hx]; rfl)
  refine sd_stW (vs := ltC x) 6 rfl rfl rfl rfl rfl rfl rfl rfl yl y1 (by rw [yl]; rfl) (ent_keep 8 [7] rfl rfl) ?_
  refine sd_nil ?_
  (refine sn_then ?_; refine sw_ret ?_)
  refine sn_ret rfl (.whole 6 rfl rfl rfl rfl (by rw [yl]; rfl) .nil) ((ent_keep 8 [1, 0] rfl rfl).trans (((ent_close (G := [])).trans (ent_row_nil t_api_Event 39 rfl)).trans (ent_keep 4 [2, 0, 1, 3] rfl rfl))) ?_
  refine ⟨x, ?_, rfl, ?_⟩
  · rw [hx]; rfl
  · rw [hx]; rfl
end
end Go.Proofs.YtmeiadgpglpelaaGreat
/- Letters: the laws' own letters. Conditions: none. -/
namespace Go.Proofs.YtmeiadgpglpelaaGreat
open Go Go.Eng Go.RowKit

/-! ## What is told plain is told of all that say the same -/
theorem giveT_nE (n w : Int) (p : Option Ev) (l : List Ev) : giveT n w (p.map nE) (l.map nE) = giveT n w p l := by
  induction l generalizing p with
  | nil => cases p <;> rfl
  | cons e l ih =>
    have h1 : chkE (nE e) n w = chkE e n w := rfl
    have h2 : lateB (p.map nE) (nE e) = lateB p e := by cases p <;> rfl
    rw [List.map_cons, giveT_cons, giveT_cons, h1, h2, ← ih (some e)]
    rfl
theorem firstC_nE (n w : Int) (l : List Ev) : firstC n w (l.map nE) = firstC n w l := by cases l <;> rfl
theorem firstE_nE (l : List Ev) : firstE (l.map nE) = firstE l := by
  induction l with
  | nil => rfl
  | cons e l ih =>
    have h1 : encE (nE e) = encE e := rfl
    rw [List.map_cons, firstE, firstE, ih, h1]
section
variable {x y : Lt}
theorem chkT_nL (h : nL y = nL x) (n w : Int) : chkT y n w = chkT x n w := by
  obtain ⟨k, f, t, sv2, sn, ev2, evs2, r, n2, id, bv2, bs⟩ := y
  simp only [nL, Lt.mk.injEq] at h
  obtain ⟨rfl, rfl, rfl, _, rfl, _, hevs, rfl, rfl, rfl, _, rfl⟩ := h
  have hl : evs2.length = x.evs.length := by have := congrArg List.length hevs; rwa [List.length_map, List.length_map] at this
  have h1 : firstC n w evs2 = firstC n w x.evs := by rw [← firstC_nE, hevs, firstC_nE]
  have h2 : giveT n w none evs2 = giveT n w none x.evs := by rw [← giveT_nE n w none evs2, hevs, giveT_nE]
  unfold chkT kindT
  dsimp only
  rw [hl, h1, h2]
  rfl
theorem encT_nL (h : nL y = nL x) : encT y = encT x := by
  obtain ⟨k, f, t, sv2, sn, ev2, evs2, r, n2, id, bv2, bs⟩ := y
  simp only [nL, Lt.mk.injEq] at h
  obtain ⟨rfl, rfl, rfl, _, rfl, _, hevs, rfl, rfl, rfl, _, rfl⟩ := h
  have hl : evs2.length = x.evs.length := by have := congrArg List.length hevs; rwa [List.length_map, List.length_map] at this
  have h1 : firstE evs2 = firstE x.evs := by rw [← firstE_nE, hevs, firstE_nE]
  have h2 : (evs2.map fun e => pBytes (encE e).1) = x.evs.map fun e => pBytes (encE e).1 := by
    have e1 : ∀ l : List Ev, (l.map fun e => pBytes (encE e).1) = (l.map nE).map fun e => pBytes (encE e).1 := fun l => by rw [List.map_map]; rfl
    rw [e1 evs2, hevs, ← e1]
  unfold encT encTL encTH
  dsimp only
  rw [hl, h1, h2]
theorem ev_nE {P : Ev → Prop} (hP : ∀ e f : Ev, nE e = nE f → P f → P e) {l m : List Ev} (h : l.map nE = m.map nE) (hm : ∀ e ∈ m, P e) : ∀ e ∈ l, P e := fun e he => by
  have : nE e ∈ m.map nE := by rw [← h]; exact List.mem_map_of_mem he
  obtain ⟨f, hf, hfe⟩ := List.mem_map.1 this
  exact hP e f hfe.symm (hm f hf)
theorem ew_nE (e f : Ev) (h : nE e = nE f) (hf : EW f) : EW e := by
  obtain ⟨dv, rv, rfl⟩ := nE_eq h.symm
  exact hf.own dv rv
theorem evl_nE (e f : Ev) (h : nE e = nE f) (hf : EvL f) : EvL e := by
  obtain ⟨dv, rv, rfl⟩ := nE_eq h.symm
  exact ⟨hf.dn, hf.rn, hf.ps, hf.ts⟩
theorem same_nE (e f : Ev) (h : nE e = nE f) (hf : f.id.length = 32 ∧ len32 f.refs ∧ f.refs.length ≤ 1000000) : e.id.length = 32 ∧ len32 e.refs ∧ e.refs.length ≤ 1000000 := by
  obtain ⟨dv, rv, rfl⟩ := nE_eq h.symm
  exact hf
theorem flat_ok {l : List (List Int)} (h : ∀ x ∈ l, byteOk x) : byteOk l.flatten := by
  induction l with
  | nil => exact .nil
  | cons x l ih => rw [List.flatten_cons]; exact (h x List.mem_cons_self).app (ih fun y hy => h y (List.mem_cons_of_mem _ hy))
theorem idOk_b {x : List Int} (hx : idOk x) : byteOk x := fun y hy => by
  have := hx.2 y hy
  simp [Lit.wf, IntKind.min, IntKind.max, IntKind.signed, IntKind.bits] at this
  omega
theorem encT_bytes {x : Lt} (h : LW x) : byteOk (encT x).1 := by
  by_cases he : (encT x).2 = 0
  · rw [(encT_ok he).2.2.1]
    unfold ltB
    exact (numB_ok _).app ((numB_ok _).app ((numB_ok _).app (((numB_ok _).app (flat_ok (fun y hy => by obtain ⟨z, _, rfl⟩ := List.mem_map.1 hy; exact numB_ok z))).app ((numB_ok _).app ((flat_ok (fun y hy => by obtain ⟨z, hz, rfl⟩ := List.mem_map.1 hy; exact (numB_ok _).app (enc_bytes (h.evs z hz)))).app (((numB_ok _).app (numB_ok _)).app ((idOk_b h.id).app ((numB_ok _).app h.bs))))))))
  · rw [encT_bad he]; exact .nil
theorem nL_evs (h : nL y = nL x) : y.evs.map nE = x.evs.map nE := (congrArg Lt.evs h : (nL y).evs = (nL x).evs)
theorem nL_seen (h : nL y = nL x) : y.seen = x.seen := (congrArg Lt.seen h : (nL y).seen = (nL x).seen)
theorem nL_bs (h : nL y = nL x) : y.bs = x.bs := (congrArg Lt.bs h : (nL y).bs = (nL x).bs)
theorem lw_nL (h : nL y = nL x) (hw : LW x) : LW y := by
  have he := ev_nE ew_nE (nL_evs h) hw.evs
  obtain ⟨k, f, t, sv2, sn, ev2, evs2, r, n2, id, bv2, bs⟩ := y
  simp only [nL, Lt.mk.injEq] at h
  obtain ⟨rfl, rfl, rfl, _, rfl, _, hevs, rfl, rfl, rfl, _, rfl⟩ := h
  exact ⟨hw.kind, hw.from', hw.to', hw.seen, he, hw.dot, hw.id, hw.bs⟩
/-- A letter that is not too long for the program's functions. -/
structure LtL (x : Lt) : Prop where
  seen : x.seen.length ≤ 1000000
  bs : x.bs.length ≤ 1000000
  ev : ∀ e ∈ x.evs, EvL e
theorem ltl_nL (h : nL y = nL x) (hl : LtL x) : LtL y := ⟨by rw [nL_seen h]; exact hl.seen, by rw [nL_bs h]; exact hl.bs, ev_nE evl_nE (nL_evs h) hl.ev⟩
end

/-! ## An own letter as one piece -/
abbrev lP (y : Lt) : SP := all (ltP y)
theorem lP_lr {b : World} {F : List SP} {k : Nat} {y : Lt} (hk : nth F k = some (lP y)) : ∀ w, Sat b F w → LR w y := fun w hS => by
  obtain ⟨h1, hl, hA⟩ := hS.mem.get hk
  have h2 : Sat b (ltP y) w := ⟨hS.os, hS.tape, hS.output, SatH.mono hA hl⟩
  exact lt_rows (j1 := 0) (j2 := 1) (j3 := 2) (j4 := 3) rfl rfl rfl rfl w h2
/-! ## The chapter's digest -/
structure IdX (id : List Int) : Prop where
  ok : idOk id
  h32 : hasM id 32 = true
  h1 : hasM id 1 = false
  own : cutR (sumM [120]) 32 = id
  other : cutR (sumM [121]) 32 ≠ id
def sha120 : List Int := sumM [120]
theorem sha120_x : IdX sha120 := by
  have h : (sumM [120]).length = 32 ∧ (sumM [120]).all (fun x => (Lit.int .u8 x).wf) = true ∧ hasM (sumM [120]) 32 = true ∧ hasM (sumM [120]) 1 = false ∧ cutR (sumM [120]) 32 = sumM [120] ∧ cutR (sumM [121]) 32 ≠ sumM [120] := by decide +kernel
  exact ⟨⟨h.1, fun x hx => List.all_eq_true.1 h.2.1 x hx⟩, h.2.2.1, h.2.2.2.1, h.2.2.2.2.1, h.2.2.2.2.2⟩
/-- The chapter's event; its Need. -/
def oneX (id : List Int) : Ev := ⟨1, 1, nS, [0, 0], 1, ⟨#[114]⟩, ⟨#[]⟩, id, nS, [id]⟩
def needX (id : List Int) : Lt := ⟨4, 2, 1, nS, [0, 0], nS, [], 1, 1, id, nS, []⟩
theorem chkE_oneX {id : List Int} (h : hasM id 32 = true) : chkE (oneX id) 2 32 = 0 := by
  have e1 : placedB (oneX id) 2 = true := rfl
  have e2 : repoF (strI (oneX id).repo) = (0, 0) := repo_r
  have e3 : tagE (oneX id) = 0 := rfl
  have e4 : idE (oneX id) 32 = 0 := by
    show (if (1 : Int) = 4 then _ else if hasM id 32 = true then (0 : Int) else 8) = 0
    rw [h]; rfl
  have e5 : refsE (oneX id) true 32 = 0 := by
    unfold refsE
    rw [if_neg (by simp), if_neg (by simp [oneX, riseB]), if_pos (by simp [oneX, h])]
  unfold chkE
  rw [if_neg (by decide), if_neg (by rw [e1]; simp), if_neg (by simp [oneX]), if_neg (by rw [e2]; simp), if_neg (by rw [e3]; simp), if_neg (by rw [e4]; simp)]
  exact e5
theorem oneX_ew {id : List Int} (h : idOk id) : EW (oneX id) :=
  small_ew h (by show (0 : Int) ≤ 1 ∧ (1 : Int) ≤ 100; decide) (by show (0 : Int) ≤ 1 ∧ (1 : Int) ≤ 100; decide) (by show (0 : Int) ≤ 1 ∧ (1 : Int) ≤ 100; decide) (by show ∀ x ∈ [(0 : Int), 0], 0 ≤ x ∧ x ≤ 100; decide) (fun x hx => by rw [List.mem_singleton.1 hx]; exact h) (by show (1 : Nat) ≤ 100; decide) (by show (0 : Nat) ≤ 100; decide)
theorem oneX_l (id : List Int) : EvL (oneX id) := ⟨by simp [oneX], by simp [oneX], by show (1 : Nat) ≤ _; decide, by show (0 : Nat) ≤ _; decide⟩
theorem small_lw {x : Lt} (h : idOk x.id) (hk : 0 ≤ x.kind ∧ x.kind ≤ 100) (hf : 0 ≤ x.from' ∧ x.from' ≤ 100) (ht : 0 ≤ x.to' ∧ x.to' ≤ 100) (hs : ∀ y ∈ x.seen, 0 ≤ y ∧ y ≤ 100) (hr : 0 ≤ x.r ∧ x.r ≤ 100) (hn : 0 ≤ x.n ∧ x.n ≤ 100) (he : ∀ e ∈ x.evs, EW e) (hb : byteOk x.bs) : LW x :=
  ⟨⟨by omega, by omega⟩, ⟨by omega, by omega⟩, ⟨by omega, by omega⟩, fun y hy => ⟨by have := hs y hy; omega, by have := hs y hy; omega⟩, he, ⟨(i64wf _).2 ⟨by dsimp only; omega, by dsimp only; omega⟩, (i64wf _).2 ⟨by dsimp only; omega, by dsimp only; omega⟩⟩, h, hb⟩
section
variable {b : World} {F : List SP}
set_option maxRecDepth 20000 in
theorem oneX_S : SC Tryz.prog n_entrepotlaw25_one [] b F (fun v F' => ∃ dv rv, v = evV ((oneX sha120).own dv rv) ∧ F' = rZ dv [0, 0] :: rD rv [sha120] :: F) := by
  have h32 := sha120_x.ok.1
  have hOf : ∀ {F' : List SP} {vb : Value}, (∀ w, Sat b F' w → VL (Value.int .u8) w vb [120]) → SC Tryz.prog n_sha_Sum [vb] b F' (fun v G => v = idV sha120 ∧ G = F') := fun h => Sum_S (by decide) h
  generalize sha120 = id at h32 hOf ⊢
  refine enterS F_entrepotlaw25_one rfl rfl rfl ?_
  (refine sw_seq (sw_region ?_))
  refine so_new rfl rfl rfl rfl rfl fun g0 => ?_
  (refine so_nil (sn_then ?_); refine sw_seq (sw_region ?_))
  refine so_lit ([120].map (Value.int .u8)) rfl rfl rfl rfl rfl rfl rfl rfl rfl fun gl => ?_
  refine so_mark 0 rfl rfl rfl rfl rfl rfl rfl rfl ?_
  refine so_callE rfl rfl rfl (hOf (fun w H => H.ptz_vl (k := 0) rfl rfl (Nat.le_refl _) (by omega) (fun j hj => rfl))) ?_
  skip
  refine so_new rfl rfl rfl rfl rfl fun g1 => ?_
  refine so_stW 0 rfl rfl rfl rfl rfl rfl rfl (by rw [u8s_len, h32]; rfl) (u8s_one _) (by simp [h32]) ?_
  (refine so_nil (sn_then ?_); refine sw_seq (sw_region ?_); refine so_1 rfl ?_)
  refine so_lit (ints [0, 0]) rfl rfl rfl rfl rfl rfl rfl rfl rfl fun gd => ?_
  refine so_ldA 1 rfl rfl rfl rfl rfl rfl (segID h32) rfl ?_
  refine so_ldA 1 rfl rfl rfl rfl rfl rfl (segID h32) rfl ?_
  refine so_lit1 rfl rfl rfl rfl rfl rfl rfl (by rw [u8s_len, h32]; rfl) (by decide) fun gr => ?_
  refine so_B rfl rfl rfl ⟨rfl, rfl, rfl, rfl, (by show (u8s _).length = _; rw [u8s_len, h32]; rfl), rfl, trivial⟩ ?_
  have yl : (evC ((oneX id).own (.slice (some ⟨gd, 0, none⟩) 2 2) (.slice (some ⟨gr, 0, none⟩) 1 1))).length = 39 := evC_len h32
  have y1 := evC_one (e := (oneX id).own (.slice (some ⟨gd, 0, none⟩) 2 2) (.slice (some ⟨gr, 0, none⟩) 1 1)) rfl rfl
  refine so_know 10 (evV ((oneX id).own (.slice (some ⟨gd, 0, none⟩) 2 2) (.slice (some ⟨gr, 0, none⟩) 1 1))) rfl rfl ?_
  generalize hx : (oneX id).own (.slice (some ⟨gd, 0, none⟩) 2 2) (.slice (some ⟨gr, 0, none⟩) 1 1) = x at yl y1 ⊢
  refine so_stW 4 rfl rfl rfl rfl rfl rfl rfl yl y1 (by rw [yl]; rfl) ?_
  (refine so_nil (sn_then ?_); refine sw_ret ?_)
  refine sn_ret rfl (.whole 4 rfl rfl rfl rfl (by rw [yl]; rfl) .nil) ((ent_blk_row (t := t_api_ID) (sz := 32) (n := 1) (v := .slice (some ⟨gr, 0, none⟩) 1 1) rfl (by rw [u8s_len, h32]) (by decide) 0 rfl rfl).trans ((ent_rDi (l := [id]) 0 rfl rfl (by simp [idsC]) rfl).trans ((ent_blk_row (t := t_int) (sz := 1) (n := 2) (v := .slice (some ⟨gd, 0, none⟩) 2 2) rfl rfl (by decide) 1 rfl rfl).trans (ent_keep 5 [1, 0] rfl rfl)))) ?_
  exact ⟨.slice (some ⟨gd, 0, none⟩) 2 2, .slice (some ⟨gr, 0, none⟩) 1 1, by rw [hx]; rfl, rfl⟩
set_option maxRecDepth 20000 in
theorem needX_S : SC Tryz.prog n_entrepotlaw25_need [] b F (fun v F' => ∃ y : Lt, nL y = nL (needX sha120) ∧ v = ltV y ∧ F' = lP y :: F) := by
  have h32 := sha120_x.ok.1
  have hOf : ∀ {F' : List SP} {vb : Value}, (∀ w, Sat b F' w → VL (Value.int .u8) w vb [120]) → SC Tryz.prog n_sha_Sum [vb] b F' (fun v G => v = idV sha120 ∧ G = F') := fun h => Sum_S (by decide) h
  generalize sha120 = id at h32 hOf ⊢
  refine enterS F_entrepotlaw25_need rfl rfl rfl ?_
  (refine sw_seq (sw_region ?_))
  refine so_new rfl rfl rfl rfl rfl fun g0 => ?_
  (refine so_nil (sn_then ?_); refine sw_seq (sw_region ?_))
  refine so_lit (ints [0, 0]) rfl rfl rfl rfl rfl rfl rfl rfl rfl fun gd => ?_
  (refine so_1 rfl ?_)
  refine so_lit ([120].map (Value.int .u8)) rfl rfl rfl rfl rfl rfl rfl rfl rfl fun gl => ?_
  refine so_mark 0 rfl rfl rfl rfl rfl rfl rfl rfl ?_
  refine so_callE rfl rfl rfl (hOf (fun w H => H.ptz_vl (k := 0) rfl rfl (Nat.le_refl _) (by omega) (fun j hj => rfl))) ?_
  skip
  refine so_B rfl rfl rfl ⟨rfl, rfl, rfl, rfl, rfl, (by show (u8s _).length = _; rw [u8s_len, h32]; rfl), trivial⟩ ?_
  have hx : ∃ x : Lt, x = { needX id with sv := .slice (some ⟨gd, 0, none⟩) 2 2 } := ⟨_, rfl⟩
  obtain ⟨x, hx⟩ := hx
  have yl : (ltC x).length = 40 := ltC_len (by rw [hx]; exact h32)
  have y1 := ltC_one (x := x) (by rw [hx]; rfl) (by rw [hx]; rfl) (by rw [hx]; rfl)
  refine so_know 6 (ltV x) rfl (by rw [hx]; rfl) ?_
  refine so_stW 2 rfl rfl rfl rfl rfl rfl rfl yl y1 (by rw [yl]; rfl) ?_
  (refine so_nil (sn_then ?_); refine sw_ret ?_)
  refine sn_ret rfl (.whole 2 rfl rfl rfl rfl (by rw [yl]; rfl) .nil) ((ent_blk_row (t := t_int) (sz := 1) (n := 2) (v := .slice (some ⟨gd, 0, none⟩) 2 2) rfl rfl (by decide) 1 rfl rfl).trans ((ent_keep 3 [1] rfl rfl).trans ((ent_row_nil t_uint8 1 rfl).trans (((ent_close (G := [])).trans (ent_row_nil t_api_Event 39 rfl)).trans ((ent_keep 4 [3, 0, 1, 2] rfl rfl).trans (ent_close (G := [rZ (.slice (some ⟨gd, 0, none⟩) 2 2) [0, 0], rEs nS [], all [], rB nS []]))))))) ?_
  exact ⟨x, by rw [hx]; rfl, rfl, by rw [hx]; rfl⟩
theorem checks_S {x : Lt} {want : Int} (hx : ∀ w, Sat b F w → LR w x) (hw : LW x) (hl : LtL x) : SC Tryz.prog n_entrepotlaw25_checks [ltV x, .int .i64 want] b F (fun v F' => v = .bool (decide (chkT x 2 32 = want)) ∧ F' = F) := by
  have xl := ltC_len hw.id.1
  refine enterS F_entrepotlaw25_checks rfl rfl rfl ?_
  (refine sw_seq (sw_region ?_))
  refine so_box rfl rfl rfl rfl rfl fun g2 => ?_
  (refine so_1 rfl ?_; refine so_nil (sn_then ?_); refine sw_seq (sw_region ?_))
  refine so_ldA 0 rfl rfl rfl rfl rfl rfl (segO_all (by rw [xl]; rfl)) rfl ?_
  refine so_callE rfl rfl rfl (CheckT_S (up hx (ent_keep 1 [] rfl rfl)) hw hl.ev hl.seen hl.bs) ?_
  ((iterate 3 refine so_1 rfl ?_); refine so_nil (sn_then ?_); refine sw_ret ?_)
  refine sn_ret rfl (.tmp rfl .nil) (ent_keep 1 [] rfl rfl) ?_
  exact ⟨rfl, rfl⟩
end
end Go.Proofs.YtmeiadgpglpelaaGreat
/- Letters: the chapter's examples (awake, LetterKnown). Conditions: none. -/
namespace Go.Proofs.YtmeiadgpglpelaaGreat
open Go Go.Eng Go.RowKit

theorem chkT_ship {x : Lt} {n w : Int} (h1 : ¬ (n < 1 ∨ 16 < n ∨ w < 1 ∨ 32 < w)) (hk : x.kind = 5) (hh : headT x n = true) (he : x.evs.length = 0) : chkT x n w = if dotT x n w ≠ 0 then dotT x n w else if 4096 < x.bs.length then 4 else if cutR (sumM x.bs) w = x.id then 0 else 8 := by
  unfold chkT kindT
  rw [if_neg h1, if_neg (by rw [hh]; simp), if_neg (by omega), if_neg (by omega), if_neg (by omega), if_neg (by omega), if_neg (by omega), if_neg (by omega)]
theorem dotT_need {x : Lt} {id : List Int} (hr : x.r = 1) (hn : x.n = 1) (hi : x.id = id) (h : hasM id 32 = true) : dotT x 2 32 = 0 := by
  unfold dotT
  rw [hr, hn, hi, if_neg (by decide), if_pos h]
section
variable {id : List Int}
theorem chk_note (h : IdX id) : chkT (noteL (oneX id) 2 [1, 0]) 2 32 = 0 := by
  have : chkT (noteL (oneX id) 2 [1, 0]) 2 32 = chkE (oneX id) 2 32 := rfl
  rw [this]; exact chkE_oneX h.h32
theorem chk_need (h : IdX id) : chkT (needX id) 2 32 = 0 := by
  have : chkT (needX id) 2 32 = if hasM id 32 = true then 0 else 8 := rfl
  rw [this, if_pos h.h32]
theorem chk_shipX (h : IdX id) : chkT (shipL (needX id) [120] [1, 0]) 2 32 = 0 := by
  rw [chkT_ship (by decide) rfl rfl rfl, dotT_need (id := id) rfl rfl rfl h.h32, if_neg (by simp), if_neg (by show ¬ 4096 < [120].length; simp)]
  show (if cutR (sumM [120]) 32 = id then (0 : Int) else 8) = 0
  rw [if_pos h.own]
theorem idOk_zero : idOk (List.replicate 32 0) := ⟨rfl, fun x hx => by rw [(List.mem_replicate.1 hx).2]; decide⟩
theorem note_lw {e : Ev} {t : Int} {seen : List Int} (he : EW e) (hr : 0 ≤ e.r ∧ e.r ≤ 100) (ht : 0 ≤ t ∧ t ≤ 100) (hs : ∀ y ∈ seen, 0 ≤ y ∧ y ≤ 100) : LW (noteL e t seen) :=
  small_lw idOk_zero ⟨by show (0 : Int) ≤ 1; decide, by show (1 : Int) ≤ 100; decide⟩ hr ht hs ⟨by show (0 : Int) ≤ 0; decide, by show (0 : Int) ≤ 100; decide⟩ ⟨by show (0 : Int) ≤ 0; decide, by show (0 : Int) ≤ 100; decide⟩ (fun f hf => by rw [List.mem_singleton.1 hf]; exact he) (fun y hy => by cases hy)
theorem s10 : ∀ y ∈ [(1 : Int), 0], 0 ≤ y ∧ y ≤ 100 := by decide
theorem oneNote_lw (h : IdX id) : LW (noteL (oneX id) 2 [1, 0]) := note_lw (oneX_ew h.ok) (by show (0 : Int) ≤ 1 ∧ (1 : Int) ≤ 100; decide) (by decide) s10
theorem oneNote_l (id seen : List Int) (h : seen.length ≤ 1000000) : LtL (noteL (oneX id) 2 seen) := ⟨h, Nat.zero_le _, fun e he => by rw [List.mem_singleton.1 he]; exact oneX_l id⟩
theorem need_lw (h : IdX id) : LW (needX id) :=
  small_lw h.ok (by show (0 : Int) ≤ 4 ∧ (4 : Int) ≤ 100; decide) (by show (0 : Int) ≤ 2 ∧ (2 : Int) ≤ 100; decide) (by show (0 : Int) ≤ 1 ∧ (1 : Int) ≤ 100; decide) (by show ∀ y ∈ [(0 : Int), 0], 0 ≤ y ∧ y ≤ 100; decide) (by show (0 : Int) ≤ 1 ∧ (1 : Int) ≤ 100; decide) (by show (0 : Int) ≤ 1 ∧ (1 : Int) ≤ 100; decide) (fun e he => by cases he) (fun y hy => by cases hy)
theorem need_l (id : List Int) : LtL (needX id) := ⟨by show (2 : Nat) ≤ _; decide, Nat.zero_le _, fun e he => by cases he⟩
theorem ship_lw (h : IdX id) {c : Int} (hc : 0 ≤ c ∧ c < 256) : LW (shipL (needX id) [c] [1, 0]) :=
  small_lw h.ok (by show (0 : Int) ≤ 5 ∧ (5 : Int) ≤ 100; decide) (by show (0 : Int) ≤ 1 ∧ (1 : Int) ≤ 100; decide) (by show (0 : Int) ≤ 2 ∧ (2 : Int) ≤ 100; decide) s10 (by show (0 : Int) ≤ 1 ∧ (1 : Int) ≤ 100; decide) (by show (0 : Int) ≤ 1 ∧ (1 : Int) ≤ 100; decide) (fun e he => by cases he) (fun y hy => by rw [List.mem_singleton.1 hy]; exact hc)
theorem ship_l (id : List Int) (c : Int) : LtL (shipL (needX id) [c] [1, 0]) := ⟨by show (2 : Nat) ≤ _; decide, by show (1 : Nat) ≤ _; decide, fun e he => by cases he⟩
end
section
variable {b : World} {F : List SP}
set_option maxRecDepth 20000 in
set_option maxHeartbeats 8000000 in
theorem awake25_S : SC Tryz.prog n_entrepotlaw25_awake [] b F (fun v F' => v = .bool true ∧ F' = F) := by
  have hx0 := sha120_x
  have hone : ∀ {F' : List SP}, SC Tryz.prog n_entrepotlaw25_one [] b F' (fun v G => ∃ dv rv, v = evV ((oneX sha120).own dv rv) ∧ G = rZ dv [0, 0] :: rD rv [sha120] :: F') := oneX_S
  have hneed : ∀ {F' : List SP}, SC Tryz.prog n_entrepotlaw25_need [] b F' (fun v G => ∃ y : Lt, nL y = nL (needX sha120) ∧ v = ltV y ∧ G = lP y :: F') := needX_S
  generalize sha120 = id at hx0 hone hneed
  have h32 := hx0.ok.1
  have hnw := oneNote_lw hx0
  refine enterS F_entrepotlaw25_awake rfl rfl rfl ?_
  (refine sw_seq (sw_region ?_); refine so_1 rfl ?_; refine so_nil (sn_then ?_); refine sw_seq (sw_region ?_))
  refine so_call rfl rfl rfl (hone) ?_
  rintro _ _ ⟨dv1, rv1, rfl, rfl⟩
  refine so_lit (ints [1, 0]) rfl rfl rfl rfl rfl rfl rfl rfl rfl fun gl1 => ?_
  refine so_call rfl rfl rfl (Note_S (e := (oneX id).own dv1 rv1) (seen := [1, 0]) h32 (er_rows (e := oneX id) (j := 1) (k := 2) rfl rfl) (by show (2 : Nat) ≤ _; decide) (by show (1 : Nat) ≤ _; decide) (fun w H => (H.blk (k := 0) rfl).sl rfl (by decide)) (by decide)) ?_
  rintro _ _ ⟨y1, hy1, rfl, rfl⟩
  replace hy1 : nL y1 = nL (noteL (oneX id) 2 [1, 0]) := hy1
  refine so_ent ((ent_keep 7 [0, 1, 2, 3] rfl rfl).trans (ent_close (G := ltP y1))) ?_
  have y132 : y1.id.length = 32 := by rw [nL_id hy1]; rfl
  have y1l := ltC_len y132
  refine so_fact (fun w H => lr_form (lP_lr (y := y1) (k := 0) rfl w H)) ?_
  rintro ⟨y1a, y1b, y1c⟩
  have y11 := ltC_one y1a y1b y1c
  refine so_new rfl rfl rfl rfl rfl fun g1 => ?_
  refine so_stW 0 rfl rfl rfl rfl rfl rfl rfl y1l y11 (by rw [y1l]; rfl) ?_
  (refine so_nil (sn_then ?_); refine sw_seq (sw_region ?_))
  refine so_ldA 0 rfl rfl rfl rfl rfl rfl (segO_all (by rw [y1l]; rfl)) rfl ?_
  have hlw := lw_nL hy1 hnw
  have hll := ltl_nL hy1 (oneNote_l id [1, 0] (by decide))
  refine so_call rfl rfl rfl (EncodeT_S (lP_lr (y := y1) (k := 1) rfl) hlw hll.ev hll.seen hll.bs) ?_
  rintro _ _ ⟨rb, rfl, rfl⟩
  obtain ⟨he0, hB, hdec, _⟩ := chkT_enc (chk_note hx0) (fun e he => by rw [List.mem_singleton.1 he]; exact evN_of (oneX_ew hx0.ok)) rfl
  have hbyte := encT_bytes hnw
  rw [encT_nL hy1, he0]
  rw [hB] at hbyte ⊢
  have hlen := (encT_ok he0).2.2.2.1
  generalize ltB (noteL (oneX id) 2 [1, 0]) = B at hdec hbyte hlen ⊢
  ((iterate 5 refine so_1 rfl ?_); refine so_nil (sn_then ?_); refine sw_seq (sw_region ?_); refine so_1 rfl ?_)
  refine so_call rfl rfl rfl (DecodeT_S (vlB (l := B) (k := 0) rfl) (by omega) hbyte) ?_
  rintro _ _ ⟨z, hz, rfl, rfl⟩
  rw [hdec] at hz ⊢
  dsimp only at hz ⊢
  refine so_ent (ent_close (G := ltP z)) ?_
  have hz' : nL z = nL y1 := by rw [hz, hy1]
  have z32 : z.id.length = 32 := by rw [nL_id hz']; exact y132
  have zl := ltC_len z32
  refine so_fact (fun w H => lr_form (lP_lr (y := z) (k := 0) rfl w H)) ?_
  rintro ⟨za, zb, zc⟩
  have z1 := ltC_one za zb zc
  ((iterate 3 refine so_1 rfl ?_))
  refine so_new rfl rfl rfl rfl rfl fun g4 => ?_
  refine so_new rfl rfl rfl rfl rfl fun g5 => ?_
  refine so_stW 1 rfl rfl rfl rfl rfl rfl rfl zl z1 (by rw [zl]; rfl) ?_
  (refine so_s1 0 rfl rfl rfl rfl ?_; refine so_nil (sn_then ?_); refine sw_seq (sw_region ?_))
  refine so_ldA 4 rfl rfl rfl rfl rfl rfl (segO_all (by rw [y1l]; rfl)) rfl ?_
  refine so_callE rfl rfl rfl (checks_S (lP_lr (y := y1) (k := 5) rfl) hlw hll) ?_
  refine so_know 20 (.bool true) rfl (by rw [chkT_nL hy1, chk_note hx0]; rfl) ?_
  (refine so_1 rfl ?_)
  refine so_call rfl rfl rfl (hneed) ?_
  rintro _ _ ⟨n1, hn1, rfl, rfl⟩
  refine so_callE rfl rfl rfl (checks_S (lP_lr (y := n1) (k := 0) rfl) (lw_nL hn1 (need_lw hx0)) (ltl_nL hn1 (need_l id))) ?_
  refine so_know 23 (.bool true) rfl (by rw [chkT_nL hn1, chk_need hx0]; rfl) ?_
  ((iterate 2 refine so_1 rfl ?_))
  refine so_call rfl rfl rfl (hneed) ?_
  rintro _ _ ⟨n2, hn2, rfl, rfl⟩
  refine so_lit ([120].map (Value.int .u8)) rfl rfl rfl rfl rfl rfl rfl rfl rfl fun gxs1 => ?_
  refine so_mark 0 rfl rfl rfl rfl rfl rfl rfl rfl ?_
  refine so_lit (ints [1, 0]) rfl rfl rfl rfl rfl rfl rfl rfl rfl fun gzs1 => ?_
  refine so_call rfl rfl rfl (Ship_S (a := n2) (bs := [120]) (seen := [1, 0]) (by rw [nL_id hn2]; exact h32) (fun w H => H.ptz_vl (k := 1) rfl rfl (Nat.le_refl _) (by omega) (fun j hj => rfl)) (by decide) (fun w H => (H.blk (k := 0) rfl).sl rfl (by decide)) (by decide)) ?_
  rintro _ _ ⟨s1, hs1, rfl, rfl⟩
  have hs1 : nL s1 = nL (shipL (needX id) [120] [1, 0]) := by
    rw [hs1]
    have e1 : n2.to' = 1 := (congrArg Lt.to' hn2 : (nL n2).to' = (nL (needX id)).to')
    have e2 : n2.from' = 2 := (congrArg Lt.from' hn2 : (nL n2).from' = (nL (needX id)).from')
    have e3 : n2.r = 1 := (congrArg Lt.r hn2 : (nL n2).r = (nL (needX id)).r)
    have e4 : n2.n = 1 := (congrArg Lt.n hn2 : (nL n2).n = (nL (needX id)).n)
    have e5 : n2.id = id := nL_id hn2
    unfold shipL
    rw [e1, e2, e3, e4, e5]; rfl
  refine so_ent ((ent_keep 7 [0, 1, 2, 3] rfl rfl).trans (ent_close (G := ltP s1))) ?_
  skip
  refine so_callE rfl rfl rfl (checks_S (lP_lr (y := s1) (k := 0) rfl) (lw_nL hs1 (ship_lw hx0 (by decide))) (ltl_nL hs1 (ship_l id 120))) ?_
  refine so_know 31 (.bool true) rfl (by rw [chkT_nL hs1, chk_shipX hx0]; rfl) ?_
  ((iterate 6 refine so_1 rfl ?_); refine so_l 2 rfl rfl rfl ?_; refine so_1 rfl ?_)
  refine so_pu rfl (pu_eqA rfl rfl (eq_fault 0 0 0 0)) rfl ?_
  ((iterate 2 refine so_1 rfl ?_))
  refine so_ldA 6 rfl rfl rfl rfl rfl rfl (segO_all (by rw [y1l]; rfl)) rfl ?_
  refine so_ldA 3 rfl rfl rfl rfl rfl rfl (segO_all (by rw [zl]; rfl)) rfl ?_
  refine so_callE rfl rfl rfl (SameLetter_S hz'.symm (lP_lr (y := y1) (k := 7) rfl) (lP_lr (y := z) (k := 4) rfl) y132 (ev_nE (P := fun e => e.id.length = 32 ∧ len32 e.refs ∧ e.refs.length ≤ 1000000) same_nE (nL_evs hy1) (fun e he => by rw [List.mem_singleton.1 he]; exact ⟨h32, (oneX_ew hx0.ok).r32, by show (1 : Nat) ≤ _; decide⟩))) ?_
  ((iterate 2 refine so_1 rfl ?_); refine so_nil (sn_then ?_); refine sw_ret ?_)
  refine sn_ret rfl (.tmp rfl .nil) (ent_keep 8 [] rfl rfl) ?_
  exact ⟨rfl, rfl⟩
end
end Go.Proofs.YtmeiadgpglpelaaGreat
/- Letters: the chapter's examples (LetterKnown). Conditions: none. -/
namespace Go.Proofs.YtmeiadgpglpelaaGreat
open Go Go.Eng Go.RowKit

section
variable {b : World} {F : List SP}
end
end Go.Proofs.YtmeiadgpglpelaaGreat
/- Letters as arguments: read. Conditions: none. -/
namespace Go.Proofs.YtmeiadgpglpelaaGreat
open Go Go.Eng Go.RowKit

abbrev rdLt := rdN 1 (rdI .i64) (rdN 1 (rdI .i64) (rdN 1 (rdI .i64) (rdN 1 (rdL 1 (rdI .i64)) (rdN 1 (rdL 39 rdEv) (rdN 2 (rdN 1 (rdI .i64) (rdI .i64)) (rdN 32 (Go.Eng.rdA 32 .u8) (rdL 1 (rdI .u8))))))))
def ltOf (x : Int × Int × Int × (Value × List Int) × (Value × List ((Int × Int) × (Value × List Int) × Int × ByteArray × ByteArray × List Int × (Value × List (List Int)))) × (Int × Int) × List Int × (Value × List Int)) : Lt :=
  ⟨x.1, x.2.1, x.2.2.1, x.2.2.2.1.1, x.2.2.2.1.2, x.2.2.2.2.1.1, x.2.2.2.2.1.2.map evOf, x.2.2.2.2.2.1.1, x.2.2.2.2.2.1.2, x.2.2.2.2.2.2.1, x.2.2.2.2.2.2.2.1, x.2.2.2.2.2.2.2.2⟩
/-- A letter, as an argument. -/
structure LA (W : World) (v : Value) (l : Lt) : Prop where
  eq : v = ltV l
  lw : LW l
  lr : LR W l
theorem wf_byte {l : List Int} (h : ∀ n ∈ l, (Lit.int .u8 n).wf = true) : byteOk l := fun y hy => by
  have := h y hy
  simp [Lit.wf, IntKind.min, IntKind.max, IntKind.signed, IntKind.bits] at this
  omega
theorem lt_of_rd {W : World} {cs : Array Value} {x} (h : rdLt W (Value.agg cs).cells.toList x) : LA W (.agg cs) (ltOf x) := by
  obtain ⟨h1, h2, h3, h4, h5, h6, h7, h8⟩ := h
  obtain ⟨a1, a2⟩ := h1
  obtain ⟨b1, b2⟩ := h2
  obtain ⟨c1, c2⟩ := h3
  obtain ⟨d1, d2, d3⟩ := rdI_list h4
  have hev := rdL_flat (p := fun e => EW e ∧ ER W e) (fun cs x hx => ev_of_rd hx) h5
  obtain ⟨e1, e2, e3⟩ := hev
  obtain ⟨⟨f1, f2⟩, f3, f4⟩ := h6
  obtain ⟨g1, g2, g3⟩ := h7
  obtain ⟨i1, i2, i3⟩ := rdI_list h8
  have h4 : cs.toList = ltC (ltOf x) := cut_eq a1 (cut_eq b1 (cut_eq c1 (cut_eq d1 (cut_eq e1 (cut_eq (cut_eq f1 f3) (cut_eq g1 i1))))))
  exact ⟨by rw [ltV, ← h4], ⟨i64wf' a2, i64wf' b2, i64wf' c2, fun y hy => i64wf' (d3 y hy), fun e he => (e3 e he).1, ⟨f2, f4⟩, ⟨g2, g3⟩, wf_byte i3⟩, ⟨d2, ⟨e2, fun e he => (e3 e he).2⟩, i2⟩⟩
theorem LA.long {W : World} {v : Value} {l : Lt} (_ : LA W v l) (h : LL l) : LtL l := ⟨by have := h.seen; omega, by have := h.bs; omega, fun e he => by
  obtain ⟨q1, q2, q3, q4⟩ := h.ev e he
  exact ⟨by omega, by omega, by have := strI_length e.repo; omega, by have := strI_length e.tag; omega⟩⟩
end Go.Proofs.YtmeiadgpglpelaaGreat
/- Letters: what is encoded is decoded as it was (LetterBack). Conditions: none. -/
namespace Go.Proofs.YtmeiadgpglpelaaGreat
open Go Go.Eng Go.RowKit

theorem SC.gather {P : Program} {f : Nat} {args : List Value} {b : World} {F : List SP} {R R' : Value → List SP → Prop} (h : SC P f args b F R) (hr : ∀ v F' w, R v F' → Sat b F' w → ∃ G, R' v G ∧ Ent F' G) : SC P f args b F R' := fun w H => (h w H).mono fun _ _ ⟨v, F', h1, h2, h3⟩ => by
  obtain ⟨G, h4, h5⟩ := hr v F' _ h2 h3
  exact ⟨v, G, h1, h4, h3.ent h5⟩
section
variable {b : World} {F : List SP}
end
end Go.Proofs.YtmeiadgpglpelaaGreat
/- Letters: notes, ships and gives that may be (LetterFits). Conditions: none. -/
namespace Go.Proofs.YtmeiadgpglpelaaGreat
open Go Go.Eng Go.RowKit

end Go.Proofs.YtmeiadgpglpelaaGreat
/- Letters: the document's Note and Ship; letters written over. Conditions: not too much. -/
namespace Go.Proofs.YtmeiadgpglpelaaGreat
open Go Go.Eng Go.RowKit

/-- A made letter's memory as one piece. -/
theorem gatherL {f : Nat} {args : List Value} {b : World} {F : List SP} {z : Lt} (hz : z.id.length = 32) (h : SC Tryz.prog f args b F (fun u F' => ∃ y : Lt, nL y = nL z ∧ u = ltV y ∧ F' = ltP y ++ F)) :
    SC Tryz.prog f args b F (fun u F' => ∃ y : Lt, (nL y = nL z ∧ (ltC y).length = 40 ∧ ∀ u ∈ ltC y, u.oneCell' = true) ∧ u = ltV y ∧ F' = lP y :: F) := by
  refine Go.Proofs.YtmeiadgpglpelaaGreat.SC.gather h ?_
  rintro _ _ w ⟨y, hy, rfl, rfl⟩ H
  have h32 : y.id.length = 32 := by rw [nL_id hy]; exact hz
  obtain ⟨q1, q2, q3⟩ := lr_form (lt_rows (y := y) (j1 := 0) (j2 := 1) (j3 := 2) (j4 := 3) rfl rfl rfl rfl w H)
  exact ⟨lP y :: F, ⟨y, ⟨hy, ltC_len h32, ltC_one q1 q2 q3⟩, rfl, rfl⟩, ent_close (G := ltP y)⟩
section
variable {b : World} {F : List SP}
end
end Go.Proofs.YtmeiadgpglpelaaGreat
/- Letters: which letters Note and Ship make (LetterMakes). Conditions: none. -/
namespace Go.Proofs.YtmeiadgpglpelaaGreat
open Go Go.Eng Go.RowKit

end Go.Proofs.YtmeiadgpglpelaaGreat
/- Letters: the document's Check, its parts. Conditions: numbers of 64 bits; not too much. -/
namespace Go.Proofs.YtmeiadgpglpelaaGreat
open Go Go.Eng Go.RowKit

section
variable {b : World} {F : List SP} {x : Lt}
set_option maxRecDepth 20000 in
set_option maxHeartbeats 4000000 in
theorem rheaded_S {n : Int} (hx : ∀ w, Sat b F w → LR w x) (hs : x.seen.length ≤ 1000000) : SC Tryz.prog n_entrepotref25_headed [ltV x, .int .i64 n] b F (fun v F' => v = .bool (headT x n) ∧ F' = F) := by
  refine enterS F_entrepotref25_headed rfl rfl rfl ?_
  refine sw_fact (fun w H => (hx w H).sv.form) ?_
  rintro ⟨A, c, hsv, h1, h2, h3, h4⟩
  (refine sw_seq (sw_region ?_))
  refine so_box rfl rfl rfl rfl rfl fun g2 => ?_
  (refine so_1 rfl ?_)
  refine so_nil (sn_then ?_)
  have her : ∀ w, Sat b (pt g2 t_api_Letter (ltC x) :: F) w → VL (Value.int .i64) w (.slice A x.seen.length c) x.seen := fun w H => by rw [← hsv]; exact (hx w (H.ent (ent_keep 1 [] rfl rfl))).sv
  generalize hC : decide (1 ≤ x.from' ∧ x.from' ≤ n ∧ 1 ≤ x.to' ∧ x.to' ≤ n ∧ x.from' ≠ x.to' ∧ (x.seen.length : Int) = n) = C
  refine sw_mid (S := Unit) (fun _ => [(1, .int .i64 n), (2, .pointer (some ⟨g2, 0, none⟩)), (5, .bool C)]) (fun _ => pt g2 t_api_Letter (ltC x) :: F) (fun _ => True) ?_ ?_
  · (refine sw_region ?_; refine so_1 rfl ?_; refine so_l 0 rfl rfl rfl ?_; (iterate 2 refine so_1 rfl ?_))
    refine so_if 10 rfl (fun k10 => ?_) (fun k10 => ?_)
    rotate_left
    · rw [decide_eq_false (by omega)] at hC
      subst hC
      ((iterate 31 refine so_1 rfl ?_); refine so_nil ?_)
      exact sn_mid () ⟨rfl, rfl, rfl, trivial⟩ (Ent.refl _) trivial
    (refine so_1 rfl ?_; refine so_l 0 rfl rfl rfl ?_; (iterate 4 refine so_1 rfl ?_))
    refine so_if 16 rfl (fun k16 => ?_) (fun k16 => ?_)
    rotate_left
    · rw [decide_eq_false (by omega)] at hC
      subst hC
      ((iterate 25 refine so_1 rfl ?_); refine so_nil ?_)
      exact sn_mid () ⟨rfl, rfl, rfl, trivial⟩ (Ent.refl _) trivial
    (refine so_1 rfl ?_; refine so_l 0 rfl rfl rfl ?_; (iterate 3 refine so_1 rfl ?_))
    refine so_if 21 rfl (fun k21 => ?_) (fun k21 => ?_)
    rotate_left
    · rw [decide_eq_false (by omega)] at hC
      subst hC
      ((iterate 20 refine so_1 rfl ?_); refine so_nil ?_)
      exact sn_mid () ⟨rfl, rfl, rfl, trivial⟩ (Ent.refl _) trivial
    (refine so_1 rfl ?_; refine so_l 0 rfl rfl rfl ?_; (iterate 4 refine so_1 rfl ?_))
    refine so_if 27 rfl (fun k27 => ?_) (fun k27 => ?_)
    rotate_left
    · rw [decide_eq_false (by omega)] at hC
      subst hC
      ((iterate 14 refine so_1 rfl ?_); refine so_nil ?_)
      exact sn_mid () ⟨rfl, rfl, rfl, trivial⟩ (Ent.refl _) trivial
    (refine so_1 rfl ?_; refine so_l 0 rfl rfl rfl ?_; refine so_1 rfl ?_; refine so_l 0 rfl rfl rfl ?_; (iterate 3 refine so_1 rfl ?_))
    refine so_split 34 rfl (fun k34 => ?_) (fun k34 => ?_)
    rotate_left
    · have k34' : x.from' = x.to' := by simpa using k34
      rw [decide_eq_false (by omega)] at hC
      subst hC
      ((iterate 7 refine so_1 rfl ?_); refine so_nil ?_)
      exact sn_mid () ⟨rfl, rfl, rfl, trivial⟩ (Ent.refl _) trivial
    have k34' : x.from' ≠ x.to' := by simpa using k34
    (refine so_1 rfl ?_; refine so_l 0 rfl rfl rfl ?_)
    rw [hsv]
    ((iterate 5 refine so_1 rfl ?_); refine so_nil ?_)
    refine sn_mid () ⟨rfl, rfl, ?_, trivial⟩ (Ent.refl _) trivial
    rw [← hC]
    exact congrArg (fun q => some (Value.bool q)) (decide_eq_decide.2 (by omega))
  rintro ⟨⟩ _
  have hp : headT x n = (C && x.seen.all okNum) := by unfold headT; rw [hC]
  clear h3
  ((iterate 2 refine sw_seq ?_); refine sw_region ?_; refine so_1 rfl ?_; refine so_nil (sn_then ?_); refine sw_block ?_)
  refine sw_loop (S := Nat × Bool) (fun s => [(1, .int .i64 n), (2, .pointer (some ⟨g2, 0, none⟩)), (5, .bool s.2), (6, .int .i64 (s.1 : Int))]) (fun _ => pt g2 t_api_Letter (ltC x) :: F) (fun s => s.1 ≤ x.seen.length ∧ (s.2 = true → C = true ∧ ∀ k (hk : k < x.seen.length), k < s.1 → okNum x.seen[k] = true) ∧ (s.2 = false → (C && x.seen.all okNum) = false)) (fun s => x.seen.length - s.1) (0, C) ⟨rfl, rfl, rfl, rfl, trivial⟩ (Ent.refl _) ⟨Nat.zero_le _, fun h => ⟨h, fun _ _ h => absurd h (Nat.not_lt_zero _)⟩, fun h => by
    have h' : C = false := h
    rw [h']; rfl⟩ ?_
  rintro ⟨i, q⟩ ⟨hi, ht, hf⟩
  dsimp only at hi ht hf ⊢
  ((iterate 2 refine sw_seq ?_); refine sw_region ?_; (iterate 2 refine so_1 rfl ?_); refine so_l 0 rfl rfl rfl ?_)
  rw [hsv]
  ((iterate 3 refine so_1 rfl ?_))
  cases q with
  | false =>
    have hff := hf rfl
    rw [hff] at hp
    refine so_split 46 rfl (fun _ => ?_) (fun _ => ?_)
    · ((iterate 2 refine so_1 rfl ?_); refine so_nil (sn_then ?_); refine sw_cond_f rfl ?_; refine sw_exit ?_; refine sn_then_exit ?_; refine sn_loop_exit ?_; refine sn_block_exit ?_; refine sn_then ?_; refine sw_seq (sw_region ?_); (iterate 2 refine so_1 rfl ?_); refine so_nil (sn_then ?_); refine sw_ret ?_)
      refine sn_ret rfl (.tmp rfl .nil) (ent_keep 1 [] rfl rfl) ?_
      exact ⟨congrArg Value.bool hp.symm, rfl⟩
    · ((iterate 2 refine so_1 rfl ?_); refine so_nil (sn_then ?_); refine sw_cond_f rfl ?_; refine sw_exit ?_; refine sn_then_exit ?_; refine sn_loop_exit ?_; refine sn_block_exit ?_; refine sn_then ?_; refine sw_seq (sw_region ?_); (iterate 2 refine so_1 rfl ?_); refine so_nil (sn_then ?_); refine sw_ret ?_)
      refine sn_ret rfl (.tmp rfl .nil) (ent_keep 1 [] rfl rfl) ?_
      exact ⟨congrArg Value.bool hp.symm, rfl⟩
  | true =>
  obtain ⟨rfl, hall⟩ := ht rfl
  refine so_if 46 rfl (fun g1 => ?_) (fun g1 => ?_)
  · have g1' : i < x.seen.length := by omega
    obtain ⟨bk, off, rfl⟩ := h4 (by omega)
    have hc : ∀ w, Sat b (pt g2 t_api_Letter (ltC x) :: F) w → w.cell? ⟨bk, off + i, none⟩ = some (.int .i64 x.seen[i]) := fun w H => VL.at (her w H) i g1'
    have hmem := List.getElem_mem g1'
    have hbad : okNum x.seen[i] = false → (true && x.seen.all okNum) = false := fun h => by
      cases ha : x.seen.all okNum with
      | false => rfl
      | true => rw [List.all_eq_true.1 ha _ hmem] at h; cases h
    have hnext : okNum x.seen[i] = true → ∀ k (hk : k < x.seen.length), k < i + 1 → okNum x.seen[k] = true := fun h k hk hlt => by
      by_cases e9 : k = i
      · subst e9; exact h
      · exact hall k hk (by omega)
    generalize x.seen[i] = z at hc hbad hnext hmem
    ((iterate 2 refine so_1 rfl ?_); refine so_nil (sn_then ?_); refine sw_cond_t rfl ?_; refine sw_skip ?_; refine sn_then ?_; refine sw_seq ?_; refine sw_block ?_; refine sw_region ?_; refine so_1 rfl ?_; refine so_l 0 rfl rfl rfl ?_; refine so_1 rfl ?_)
    rw [hsv]
    (refine so_2 rfl (by omega) ?_)
    refine so_rd rfl (fun w H => ex_load rfl rfl rfl (by rw [mulz_eq, Int.toNat_natCast, Nat.mul_one]; exact hc w H)) rfl ?_
    ((iterate 2 refine so_1 rfl ?_))
    refine so_if 57 rfl (fun g2' => ?_) (fun g2' => ?_)
    · (refine so_1 rfl ?_; refine so_l 0 rfl rfl rfl ?_; refine so_1 rfl ?_)
      rw [hsv]
      (refine so_2 rfl (by omega) ?_)
      refine so_rd rfl (fun w H => ex_load rfl rfl rfl (by rw [mulz_eq, Int.toNat_natCast, Nat.mul_one]; exact hc w H)) rfl ?_
      ((iterate 3 refine so_1 rfl ?_); refine so_nil ?_; refine sn_block ?_; refine sn_then ?_; refine sw_region ?_; refine so_1 rfl ?_; refine so_2 rfl (by (unfold I64; omega)) ?_; refine so_1 rfl ?_; refine so_nil ?_)
      rw [show (i : Int) + 1 = ((i + 1 : Nat) : Int) by omega]
      have hok : okNum z = decide (z ≤ 1048576) := by unfold okNum; rw [decide_eq_true g2']; rfl
      refine sn_round (i + 1, decide (z ≤ 1048576)) ⟨rfl, rfl, rfl, rfl, trivial⟩ (Ent.refl _) ⟨g1', fun h => ⟨rfl, hnext (by rw [hok]; exact h)⟩, fun h => hbad (by rw [hok]; exact h)⟩ (by dsimp only; omega)
    · ((iterate 8 refine so_1 rfl ?_); refine so_nil ?_; refine sn_block ?_; refine sn_then ?_; refine sw_region ?_; refine so_1 rfl ?_; refine so_2 rfl (by (unfold I64; omega)) ?_; refine so_1 rfl ?_; refine so_nil ?_)
      rw [show (i : Int) + 1 = ((i + 1 : Nat) : Int) by omega]
      have hok : okNum z = false := by unfold okNum; rw [decide_eq_false g2']; rfl
      refine sn_round (i + 1, false) ⟨rfl, rfl, rfl, rfl, trivial⟩ (Ent.refl _) ⟨g1', fun h => (by cases h), fun _ => hbad hok⟩ (by dsimp only; omega)
  · have hallT : x.seen.all okNum = true := List.all_eq_true.2 fun y hy => by
      obtain ⟨k, hk, rfl⟩ := List.mem_iff_getElem.1 hy
      exact hall k hk (by omega)
    rw [hallT] at hp
    ((iterate 2 refine so_1 rfl ?_); refine so_nil (sn_then ?_); refine sw_cond_f rfl ?_; refine sw_exit ?_; refine sn_then_exit ?_; refine sn_loop_exit ?_; refine sn_block_exit ?_; refine sn_then ?_; refine sw_seq (sw_region ?_); (iterate 2 refine so_1 rfl ?_); refine so_nil (sn_then ?_); refine sw_ret ?_)
    refine sn_ret rfl (.tmp rfl .nil) (ent_keep 1 [] rfl rfl) ?_
    exact ⟨congrArg Value.bool (by rw [hp]; rfl), rfl⟩
/-- Is what the kind does not name empty? -/
def plainT (x : Lt) : Bool := decide ((x.kind = 1 ∨ x.kind = 3) ∨ x.evs.length = 0) && decide ((x.kind = 4 ∨ x.kind = 5) ∨ (x.r = 0 ∧ x.n = 0 ∧ x.id = List.replicate 32 0)) && decide (x.kind = 5 ∨ x.bs.length = 0)
set_option maxRecDepth 20000 in
set_option maxHeartbeats 8000000 in
theorem rplain_S (h32 : x.id.length = 32) (hx : ∀ w, Sat b F w → LR w x) : SC Tryz.prog n_entrepotref25_plain [ltV x] b F (fun v F' => v = .bool (plainT x) ∧ F' = F) := by
  refine enterS F_entrepotref25_plain rfl rfl rfl ?_
  refine sw_fact (fun w H => sl_form (hx w H).ev.sl) ?_
  rintro ⟨A, c, hxv, _, _, _, _, _⟩
  refine sw_fact (fun w H => (hx w H).bv.form) ?_
  rintro ⟨A2, c2, hbv, _, _, _, _⟩
  (refine sw_seq (sw_region ?_))
  refine so_box rfl rfl rfl rfl rfl fun g1 => ?_
  (refine so_1 rfl ?_)
  refine so_nil (sn_then ?_)
  refine sw_mid (S := Unit) (fun _ => [(1, .pointer (some ⟨g1, 0, none⟩)), (3, .bool (decide (x.kind = 1 ∨ x.kind = 3)))]) (fun _ => pt g1 t_api_Letter (ltC x) :: F) (fun _ => True) ?_ ?_
  · (refine sw_region ?_; refine so_1 rfl ?_; refine so_l 0 rfl rfl rfl ?_; (iterate 2 refine so_1 rfl ?_))
    refine so_if 8 rfl (fun k1 => ?_) (fun k1 => ?_)
    · rw [decide_eq_true (p := x.kind = 1 ∨ x.kind = 3) (.inl k1)]
      ((iterate 5 refine so_1 rfl ?_); refine so_nil ?_)
      exact sn_mid () ⟨rfl, rfl, trivial⟩ (Ent.refl _) trivial
    · (refine so_1 rfl ?_; refine so_l 0 rfl rfl rfl ?_; (iterate 3 refine so_1 rfl ?_); refine so_nil ?_)
      refine sn_mid () ⟨rfl, ?_, trivial⟩ (Ent.refl _) trivial
      exact congrArg (fun q => some (Value.bool q)) (decide_eq_decide.2 (by omega))
  rintro ⟨⟩ _
  refine sw_mid (S := Unit) (fun _ => [(1, .pointer (some ⟨g1, 0, none⟩)), (3, .bool (decide (x.kind = 1 ∨ x.kind = 3))), (4, .bool (decide (x.kind = 4 ∨ x.kind = 5)))]) (fun _ => pt g1 t_api_Letter (ltC x) :: F) (fun _ => True) ?_ ?_
  · (refine sw_region ?_; refine so_1 rfl ?_; refine so_l 0 rfl rfl rfl ?_; (iterate 2 refine so_1 rfl ?_))
    refine so_if 16 rfl (fun k1 => ?_) (fun k1 => ?_)
    · rw [decide_eq_true (p := x.kind = 4 ∨ x.kind = 5) (.inl k1)]
      ((iterate 5 refine so_1 rfl ?_); refine so_nil ?_)
      exact sn_mid () ⟨rfl, rfl, rfl, trivial⟩ (Ent.refl _) trivial
    · (refine so_1 rfl ?_; refine so_l 0 rfl rfl rfl ?_; (iterate 3 refine so_1 rfl ?_); refine so_nil ?_)
      refine sn_mid () ⟨rfl, rfl, ?_, trivial⟩ (Ent.refl _) trivial
      exact congrArg (fun q => some (Value.bool q)) (decide_eq_decide.2 (by omega))
  rintro ⟨⟩ _
  generalize hK : decide (x.kind = 1 ∨ x.kind = 3) = K
  generalize hD : decide (x.kind = 4 ∨ x.kind = 5) = D
  have hp : plainT x = ((K || decide (x.evs.length = 0)) && (D || (decide (x.r = 0 ∧ x.n = 0) && decide (x.id = List.replicate 32 0))) && (decide (x.kind = 5) || decide (x.bs.length = 0))) := by
    unfold plainT
    rw [← hK, ← hD, Bool.eq_iff_iff]
    simp only [Bool.and_eq_true, Bool.or_eq_true, decide_eq_true_eq, and_assoc]
  cases K with
  | true =>
    (refine sw_seq (sw_region ?_); (iterate 10 refine so_1 rfl ?_))
    cases D with
    | true =>
      ((iterate 14 refine so_1 rfl ?_); refine so_l 0 rfl rfl rfl ?_; (iterate 2 refine so_1 rfl ?_))
      refine so_if 47 rfl (fun k5 => ?_) (fun k5 => ?_)
      · ((iterate 7 refine so_1 rfl ?_); refine so_nil (sn_then ?_); refine sw_ret ?_)
        refine sn_ret rfl (.tmp rfl .nil) (ent_keep 1 [] rfl rfl) ?_
        exact ⟨congrArg Value.bool (by rw [hp, decide_eq_true k5]; rfl), rfl⟩
      (refine so_1 rfl ?_)
      refine so_ld 0 rfl rfl rfl rfl rfl rfl (ltC_bv h32) rfl ?_
      rw [hbv]
      ((iterate 5 refine so_1 rfl ?_); refine so_nil (sn_then ?_); refine sw_ret ?_)
      refine sn_ret rfl (.tmp rfl .nil) (ent_keep 1 [] rfl rfl) ?_
      exact ⟨congrArg Value.bool (by rw [hp, decide_eq_false k5, Bool.false_or]; simp), rfl⟩
    | false =>
    (refine so_1 rfl ?_)
    refine so_ldA 0 rfl rfl rfl rfl rfl rfl ltC_dot rfl ?_
    (refine so_1 rfl ?_)
    refine so_know 33 (dotV 0 0) rfl rfl ?_
    refine so_pu rfl (pu_eqA rfl rfl (eq_dot x.r x.n 0 0)) rfl ?_
    by_cases q1 : x.r = 0 ∧ x.n = 0
    rotate_left
    · refine so_know 34 (.bool false) rfl (congrArg Value.bool (decide_eq_false q1)) ?_
      ((iterate 20 refine so_1 rfl ?_); refine so_nil (sn_then ?_); refine sw_ret ?_)
      refine sn_ret rfl (.tmp rfl .nil) (ent_keep 1 [] rfl rfl) ?_
      exact ⟨congrArg Value.bool (by rw [hp, decide_eq_false q1]; simp), rfl⟩
    refine so_know 34 (.bool true) rfl (congrArg Value.bool (decide_eq_true q1)) ?_
    ((iterate 2 refine so_1 rfl ?_))
    refine so_ldA 0 rfl rfl rfl rfl rfl rfl (ltC_id h32) rfl ?_
    (refine so_1 rfl ?_)
    refine so_know 38 (idV (List.replicate 32 0)) rfl rfl ?_
    refine so_pu rfl (pu_eqI (as00 := x.id) (bs := List.replicate 32 0) rfl rfl h32 rfl) rfl ?_
    by_cases q2 : x.id = List.replicate 32 0
    rotate_left
    · refine so_know 39 (.bool false) rfl (congrArg Value.bool (decide_eq_false q2)) ?_
      ((iterate 15 refine so_1 rfl ?_); refine so_nil (sn_then ?_); refine sw_ret ?_)
      refine sn_ret rfl (.tmp rfl .nil) (ent_keep 1 [] rfl rfl) ?_
      exact ⟨congrArg Value.bool (by rw [hp, decide_eq_false q2]; simp), rfl⟩
    refine so_know 39 (.bool true) rfl (congrArg Value.bool (decide_eq_true q2)) ?_
    ((iterate 5 refine so_1 rfl ?_); refine so_l 0 rfl rfl rfl ?_; (iterate 2 refine so_1 rfl ?_))
    refine so_if 47 rfl (fun k5 => ?_) (fun k5 => ?_)
    · ((iterate 7 refine so_1 rfl ?_); refine so_nil (sn_then ?_); refine sw_ret ?_)
      refine sn_ret rfl (.tmp rfl .nil) (ent_keep 1 [] rfl rfl) ?_
      exact ⟨congrArg Value.bool (by rw [hp, decide_eq_true q1, decide_eq_true q2, decide_eq_true k5]; rfl), rfl⟩
    (refine so_1 rfl ?_)
    refine so_ld 0 rfl rfl rfl rfl rfl rfl (ltC_bv h32) rfl ?_
    rw [hbv]
    ((iterate 5 refine so_1 rfl ?_); refine so_nil (sn_then ?_); refine sw_ret ?_)
    refine sn_ret rfl (.tmp rfl .nil) (ent_keep 1 [] rfl rfl) ?_
    exact ⟨congrArg Value.bool (by rw [hp, decide_eq_true q1, decide_eq_true q2, decide_eq_false k5, Bool.false_or]; simp), rfl⟩
  | false =>
  (refine sw_seq (sw_region ?_); (iterate 3 refine so_1 rfl ?_); refine so_l 0 rfl rfl rfl ?_)
  rw [hxv]
  ((iterate 4 refine so_1 rfl ?_))
  refine so_if 28 rfl (fun k2 => ?_) (fun k2 => ?_)
  rotate_left
  · ((iterate 26 refine so_1 rfl ?_); refine so_nil (sn_then ?_); refine sw_ret ?_)
    refine sn_ret rfl (.tmp rfl .nil) (ent_keep 1 [] rfl rfl) ?_
    exact ⟨congrArg Value.bool (by rw [hp, decide_eq_false (by omega)]; rfl), rfl⟩
  have k2' : x.evs.length = 0 := by omega
  cases D with
  | true =>
    ((iterate 16 refine so_1 rfl ?_); refine so_l 0 rfl rfl rfl ?_; (iterate 2 refine so_1 rfl ?_))
    refine so_if 47 rfl (fun k5 => ?_) (fun k5 => ?_)
    · ((iterate 7 refine so_1 rfl ?_); refine so_nil (sn_then ?_); refine sw_ret ?_)
      refine sn_ret rfl (.tmp rfl .nil) (ent_keep 1 [] rfl rfl) ?_
      exact ⟨congrArg Value.bool (by rw [hp, decide_eq_true k2', decide_eq_true k5]; rfl), rfl⟩
    (refine so_1 rfl ?_)
    refine so_ld 0 rfl rfl rfl rfl rfl rfl (ltC_bv h32) rfl ?_
    rw [hbv]
    ((iterate 5 refine so_1 rfl ?_); refine so_nil (sn_then ?_); refine sw_ret ?_)
    refine sn_ret rfl (.tmp rfl .nil) (ent_keep 1 [] rfl rfl) ?_
    exact ⟨congrArg Value.bool (by rw [hp, decide_eq_true k2', decide_eq_false k5, Bool.false_or]; simp), rfl⟩
  | false =>
  ((iterate 3 refine so_1 rfl ?_))
  refine so_ldA 0 rfl rfl rfl rfl rfl rfl ltC_dot rfl ?_
  (refine so_1 rfl ?_)
  refine so_know 33 (dotV 0 0) rfl rfl ?_
  refine so_pu rfl (pu_eqA rfl rfl (eq_dot x.r x.n 0 0)) rfl ?_
  by_cases q1 : x.r = 0 ∧ x.n = 0
  rotate_left
  · refine so_know 34 (.bool false) rfl (congrArg Value.bool (decide_eq_false q1)) ?_
    ((iterate 20 refine so_1 rfl ?_); refine so_nil (sn_then ?_); refine sw_ret ?_)
    refine sn_ret rfl (.tmp rfl .nil) (ent_keep 1 [] rfl rfl) ?_
    exact ⟨congrArg Value.bool (by rw [hp, decide_eq_true k2', decide_eq_false q1]; simp), rfl⟩
  refine so_know 34 (.bool true) rfl (congrArg Value.bool (decide_eq_true q1)) ?_
  ((iterate 2 refine so_1 rfl ?_))
  refine so_ldA 0 rfl rfl rfl rfl rfl rfl (ltC_id h32) rfl ?_
  (refine so_1 rfl ?_)
  refine so_know 38 (idV (List.replicate 32 0)) rfl rfl ?_
  refine so_pu rfl (pu_eqI (as00 := x.id) (bs := List.replicate 32 0) rfl rfl h32 rfl) rfl ?_
  by_cases q2 : x.id = List.replicate 32 0
  rotate_left
  · refine so_know 39 (.bool false) rfl (congrArg Value.bool (decide_eq_false q2)) ?_
    ((iterate 15 refine so_1 rfl ?_); refine so_nil (sn_then ?_); refine sw_ret ?_)
    refine sn_ret rfl (.tmp rfl .nil) (ent_keep 1 [] rfl rfl) ?_
    exact ⟨congrArg Value.bool (by rw [hp, decide_eq_true k2', decide_eq_false q2]; simp), rfl⟩
  refine so_know 39 (.bool true) rfl (congrArg Value.bool (decide_eq_true q2)) ?_
  ((iterate 5 refine so_1 rfl ?_); refine so_l 0 rfl rfl rfl ?_; (iterate 2 refine so_1 rfl ?_))
  refine so_if 47 rfl (fun k5 => ?_) (fun k5 => ?_)
  · ((iterate 7 refine so_1 rfl ?_); refine so_nil (sn_then ?_); refine sw_ret ?_)
    refine sn_ret rfl (.tmp rfl .nil) (ent_keep 1 [] rfl rfl) ?_
    exact ⟨congrArg Value.bool (by rw [hp, decide_eq_true k2', decide_eq_true q1, decide_eq_true q2, decide_eq_true k5]; rfl), rfl⟩
  (refine so_1 rfl ?_)
  refine so_ld 0 rfl rfl rfl rfl rfl rfl (ltC_bv h32) rfl ?_
  rw [hbv]
  ((iterate 5 refine so_1 rfl ?_); refine so_nil (sn_then ?_); refine sw_ret ?_)
  refine sn_ret rfl (.tmp rfl .nil) (ent_keep 1 [] rfl rfl) ?_
  exact ⟨congrArg Value.bool (by rw [hp, decide_eq_true k2', decide_eq_true q1, decide_eq_true q2, decide_eq_false k5, Bool.false_or]; simp), rfl⟩
end
end Go.Proofs.YtmeiadgpglpelaaGreat
/- Letters: the document's Check. Conditions: numbers of 64 bits; not too much. -/
namespace Go.Proofs.YtmeiadgpglpelaaGreat
open Go Go.Eng Go.RowKit

/-- Why a letter's events may not be, as the document says it. -/
def evsT (x : Lt) (n w : Int) : Int := if x.kind = 1 ∧ x.evs.length ≠ 1 then 2 else if 8 < x.evs.length then 4 else giveT n w none x.evs
theorem plainT_iff {x : Lt} : plainT x = true ↔ ((x.kind = 1 ∨ x.kind = 3) ∨ x.evs.length = 0) ∧ ((x.kind = 4 ∨ x.kind = 5) ∨ (x.r = 0 ∧ x.n = 0 ∧ x.id = List.replicate 32 0)) ∧ (x.kind = 5 ∨ x.bs.length = 0) := by
  unfold plainT
  simp only [Bool.and_eq_true, decide_eq_true_eq, and_assoc]
theorem bareT_iff {x : Lt} : bareT x = true ↔ x.r = 0 ∧ x.n = 0 ∧ x.id = List.replicate 32 0 ∧ x.bs.length = 0 := by
  unfold bareT; simp only [decide_eq_true_eq]
theorem kindT_odd {x : Lt} {n w : Int} (hk : 1 ≤ x.kind ∧ x.kind ≤ 5) (h : plainT x = false) : kindT x n w = 2 := by
  have h' : ¬ plainT x = true := by rw [h]; simp
  rw [plainT_iff] at h'
  have hb : ∀ {p : Prop}, (¬ (x.r = 0 ∧ x.n = 0 ∧ x.id = List.replicate 32 0 ∧ x.bs.length = 0)) → (bareT x = false ∨ p) := fun hn => .inl (by
    cases hq : bareT x with
    | false => rfl
    | true => exact absurd (bareT_iff.1 hq) hn)
  unfold kindT
  by_cases k1 : x.kind = 1
  · rw [if_pos k1, if_pos (hb fun hq => h' ⟨.inl (.inl k1), .inr ⟨hq.1, hq.2.1, hq.2.2.1⟩, .inr hq.2.2.2⟩)]
  rw [if_neg k1]
  by_cases k2 : x.kind = 2
  · rw [if_pos k2]
    by_cases q0 : 0 < x.evs.length
    · rw [if_pos (.inr q0)]
    · rw [if_pos (hb fun hq => h' ⟨.inr (by omega), .inr ⟨hq.1, hq.2.1, hq.2.2.1⟩, .inr hq.2.2.2⟩)]
  rw [if_neg k2]
  by_cases k3 : x.kind = 3
  · rw [if_pos k3]
    have : bareT x = false := (hb (p := False) fun hq => h' ⟨.inl (.inr k3), .inr ⟨hq.1, hq.2.1, hq.2.2.1⟩, .inr hq.2.2.2⟩).elim id (fun h => h.elim)
    rw [if_pos this]
  rw [if_neg k3]
  by_cases k4 : x.kind = 4
  · rw [if_pos k4, if_pos]
    refine Decidable.byContradiction fun hq => h' ⟨.inr (by omega), .inl (.inl k4), .inr (by omega)⟩
  rw [if_neg k4, if_pos]
  refine Decidable.byContradiction fun hq => h' ⟨.inr (by omega), .inl (.inr (by omega)), .inl (by omega)⟩
theorem giveT_one {n w : Int} {e : Ev} : giveT n w none [e] = chkE e n w := by
  rw [giveT_cons]
  by_cases h : chkE e n w ≠ 0
  · rw [if_pos h]
  · rw [if_neg h, if_neg (by simp [lateB])]
    exact (Decidable.not_not.1 h).symm
theorem kindT_evs {x : Lt} {n w : Int} (hk : 1 ≤ x.kind ∧ x.kind ≤ 3) (h : plainT x = true) : kindT x n w = evsT x n w := by
  obtain ⟨p1, p2, p3⟩ := plainT_iff.1 h
  have hb : bareT x = true := bareT_iff.2 (by
    rcases p2 with p2 | ⟨a1, a2, a3⟩
    · omega
    · exact ⟨a1, a2, a3, by omega⟩)
  have nb : ¬ bareT x = false := by rw [hb]; simp
  unfold kindT evsT
  by_cases k1 : x.kind = 1
  · rw [if_pos k1]
    by_cases q : x.evs.length ≠ 1
    · rw [if_pos (.inr q), if_pos ⟨k1, q⟩]
    · rw [if_neg (fun h => h.elim nb q), if_neg (fun h => q h.2), if_neg (by omega)]
      match hx : x.evs, (by omega : x.evs.length = 1) with
      | [e], _ => rw [giveT_one]; rfl
  rw [if_neg k1, if_neg (c := x.kind = 1 ∧ x.evs.length ≠ 1) (fun h => k1 h.1)]
  by_cases k2 : x.kind = 2
  · rw [if_pos k2, if_neg (fun h => h.elim nb (by omega)), if_neg (by omega), List.eq_nil_of_length_eq_zero (by omega : x.evs.length = 0)]
    rfl
  · rw [if_neg k2, if_pos (by omega), if_neg nb]
theorem kindT_dot {x : Lt} {n w : Int} (hk : 3 < x.kind ∧ x.kind ≤ 5) (h : plainT x = true) : kindT x n w = if dotT x n w ≠ 0 then dotT x n w else if 4096 < x.bs.length then 4 else if x.kind = 5 ∧ cutR (sumM x.bs) w ≠ x.id then 8 else 0 := by
  obtain ⟨p1, p2, p3⟩ := plainT_iff.1 h
  unfold kindT
  rw [if_neg (by omega), if_neg (by omega), if_neg (by omega)]
  by_cases k4 : x.kind = 4
  · rw [if_pos k4, if_neg (by omega)]
    by_cases q : dotT x n w ≠ 0
    · rw [if_pos q]
    · rw [if_neg q, if_neg (by omega), if_neg (by omega)]; exact Decidable.not_not.1 q
  · rw [if_neg k4, if_neg (by omega)]
    by_cases q : dotT x n w ≠ 0
    · rw [if_pos q, if_pos q]
    · rw [if_neg q, if_neg q]
      by_cases q2 : 4096 < x.bs.length
      · rw [if_pos q2, if_pos q2]
      · rw [if_neg q2, if_neg q2]
        by_cases q3 : cutR (sumM x.bs) w = x.id
        · rw [if_pos q3, if_neg (fun h => h.2 q3)]
        · rw [if_neg q3, if_pos ⟨by omega, q3⟩]
section
variable {b : World} {F : List SP} {x : Lt} {n w0 : Int}
set_option maxRecDepth 20000 in
set_option maxHeartbeats 4000000 in
theorem revents_S (hx : ∀ w, Sat b F w → LR w x) (hw : LW x) (hev : ∀ e ∈ x.evs, EvL e) : SC Tryz.prog n_entrepotref25_events [ltV x, .int .i64 n, .int .i64 w0] b F (fun u F' => u = .int .i64 (evsT x n w0) ∧ F' = F) := by
  have he32 : ∀ e ∈ x.evs, e.id.length = 32 := fun e he => (hw.evs e he).l32
  refine enterS F_entrepotref25_events rfl rfl rfl ?_
  refine sw_fact (fun w H => sl_form (hx w H).ev.sl) ?_
  rintro ⟨A, c, hxv, _, _, _, h4, _⟩
  (refine sw_seq (sw_region ?_))
  refine so_box rfl rfl rfl rfl rfl fun g3 => ?_
  (refine so_1 rfl ?_)
  refine so_nil (sn_then ?_)
  refine sw_mid (S := Unit) (fun _ => [(1, .int .i64 n), (2, .int .i64 w0), (3, .pointer (some ⟨g3, 0, none⟩))]) (fun _ => pt g3 t_api_Letter (ltC x) :: F) (fun _ => evsT x n w0 = giveT n w0 none x.evs) ?_ ?_
  · (refine sw_block ?_; refine sw_seq (sw_region ?_); refine so_1 rfl ?_; refine so_l 0 rfl rfl rfl ?_; (iterate 2 refine so_1 rfl ?_))
    refine so_if 13 rfl (fun k1 => ?_) (fun k1 => ?_)
    · (refine so_1 rfl ?_; refine so_l 0 rfl rfl rfl ?_)
      rw [hxv]
      ((iterate 4 refine so_1 rfl ?_); refine so_nil (sn_then ?_))
      refine sw_ifn rfl (fun k2 => ?_) (fun k2 => ?_)
      · (refine sw_seq (sw_region ?_); refine so_1 rfl ?_; refine so_nil (sn_then ?_); refine sw_ret ?_; refine sn_block_ret ?_; refine sn_loop_ret ?_)
        refine sn_ret rfl (.tmp rfl .nil) (ent_keep 1 [] rfl rfl) ?_
        exact ⟨by unfold evsT; rw [if_pos ⟨k1, by omega⟩]; rfl, rfl⟩
      (refine sw_seq (sw_region ?_); refine so_1 rfl ?_; refine so_l 0 rfl rfl rfl ?_)
      rw [hxv]
      ((iterate 3 refine so_1 rfl ?_); refine so_nil (sn_then ?_))
      refine sw_if rfl (fun k3 => ?_) (fun k3 => ?_)
      · omega
      (refine sw_skip ?_; refine sn_block ?_)
      exact sn_mid () ⟨rfl, rfl, rfl, trivial⟩ (Ent.refl _) (by unfold evsT; rw [if_neg (by omega), if_neg (by omega)])
    · ((iterate 6 refine so_1 rfl ?_); refine so_nil (sn_then ?_); refine sw_cond_f rfl ?_; refine sw_seq (sw_region ?_); refine so_1 rfl ?_; refine so_l 0 rfl rfl rfl ?_)
      rw [hxv]
      ((iterate 3 refine so_1 rfl ?_); refine so_nil (sn_then ?_))
      refine sw_if rfl (fun k3 => ?_) (fun k3 => ?_)
      · (refine sw_seq (sw_region ?_); refine so_1 rfl ?_; refine so_nil (sn_then ?_); refine sw_ret ?_; refine sn_block_ret ?_; refine sn_loop_ret ?_)
        refine sn_ret rfl (.tmp rfl .nil) (ent_keep 1 [] rfl rfl) ?_
        exact ⟨by unfold evsT; rw [if_neg (by omega), if_pos (by omega)]; rfl, rfl⟩
      (refine sw_skip ?_; refine sn_block ?_)
      exact sn_mid () ⟨rfl, rfl, rfl, trivial⟩ (Ent.refl _) (by unfold evsT; rw [if_neg (by omega), if_neg (by omega)])
  rintro ⟨⟩ hE
  rw [hE]
  ((iterate 2 refine sw_seq ?_); refine sw_region ?_; refine so_1 rfl ?_; refine so_nil (sn_then ?_); refine sw_block ?_)
  refine sw_loop (S := Nat) (fun i => [(1, .int .i64 n), (2, .int .i64 w0), (3, .pointer (some ⟨g3, 0, none⟩)), (7, .int .i64 (i : Int))]) (fun _ => pt g3 t_api_Letter (ltC x) :: F) (fun i => i ≤ x.evs.length ∧ giveT n w0 none x.evs = giveT n w0 (prevE x.evs i) (x.evs.drop i)) (fun i => x.evs.length - i) 0 ⟨rfl, rfl, rfl, rfl, trivial⟩ (Ent.refl _) ⟨Nat.zero_le _, rfl⟩ ?_
  rintro i ⟨hi, hg⟩
  ((iterate 2 refine sw_seq ?_); refine sw_region ?_; (iterate 2 refine so_1 rfl ?_); refine so_l 0 rfl rfl rfl ?_)
  rw [hxv]
  ((iterate 2 refine so_1 rfl ?_); refine so_nil (sn_then ?_))
  refine sw_if rfl (fun c2 => ?_) (fun c2 => ?_)
  rotate_left
  · have hd : x.evs.drop i = [] := List.drop_of_length_le (by omega)
    rw [hd] at hg
    (refine sw_exit ?_; refine sn_then_exit ?_; refine sn_loop_exit ?_; refine sn_block_exit ?_; refine sn_then ?_; refine sw_seq (sw_region ?_); refine so_1 rfl ?_; refine so_nil (sn_then ?_); refine sw_ret ?_)
    refine sn_ret rfl (.tmp rfl .nil) (ent_keep 1 [] rfl rfl) ?_
    exact ⟨by rw [hg]; rfl, rfl⟩
  have h1 : i < x.evs.length := by omega
  obtain ⟨gg, oo, rfl⟩ := h4 (by omega)
  have hmem := List.getElem_mem h1
  have hc : ∀ w, Sat b F w → ∀ j, j < 39 → w.cell? ⟨gg, oo + i * 39 + j, none⟩ = (evC x.evs[i])[j]? := fun w H j hj => ev_cell (by have := (hx w H).ev; rw [hxv] at this; exact this) he32 h1 hj
  have her : ∀ w, Sat b F w → ER w x.evs[i] := fun w H => (hx w H).ev.er _ hmem
  have hew := hw.evs _ hmem
  have hel := hev _ hmem
  have hd : x.evs.drop i = x.evs[i] :: x.evs.drop (i + 1) := List.drop_eq_getElem_cons h1
  have hpn : prevE x.evs (i + 1) = some x.evs[i] := by
    unfold prevE; rw [if_neg (by omega), Nat.add_sub_cancel]; exact List.getElem?_eq_getElem h1
  rw [hd, giveT_cons] at hg
  generalize x.evs[i] = e at *
  have el := evC_len hew.l32
  (refine sw_skip ?_; refine sn_then ?_; refine sw_seq ?_; refine sw_block ?_; refine sw_seq (sw_region ?_); refine so_1 rfl ?_; refine so_l 0 rfl rfl rfl ?_; refine so_1 rfl ?_)
  rw [hxv]
  (refine so_2 rfl (by omega) ?_)
  refine so_rd rfl (fun w H => ex_loadN (cs := evC e) rfl rfl rfl el (fun j hj => by rw [el] at hj; rw [mulz_eq, Int.toNat_natCast]; exact hc w (H.ent (ent_keep 1 [] rfl rfl)) j hj)) rfl ?_
  ((iterate 2 refine so_1 rfl ?_))
  refine so_callE rfl rfl rfl (rCheck_S (fun w H => her w (H.ent (ent_keep 1 [] rfl rfl))) hew hel) ?_
  (refine so_1 rfl ?_; refine so_nil (sn_then ?_); (iterate 2 refine sw_seq ?_); refine sw_region ?_; (iterate 2 refine so_1 rfl ?_); refine so_nil (sn_then ?_))
  refine sw_ifn rfl (fun c3 => ?_) (fun c3 => ?_)
  · rw [if_pos c3] at hg
    (refine sw_seq (sw_region ?_); (iterate 2 refine so_1 rfl ?_); refine so_nil (sn_then ?_); refine sw_ret ?_; refine sn_then_ret ?_; refine sn_block_ret ?_; refine sn_then_ret ?_; refine sn_loop_ret ?_; refine sn_block_ret ?_; refine sn_then_ret ?_)
    refine sn_ret rfl (.tmp rfl .nil) (ent_keep 1 [] rfl rfl) ?_
    exact ⟨by rw [hg]; rfl, rfl⟩
  rw [if_neg (not_not_intro c3)] at hg
  (refine sw_skip ?_; refine sn_then ?_; refine sw_seq ?_)
  refine sw_draw flo _ (by decide +kernel) (Ent.refl _) ?_
  ((iterate 3 refine sd_1 rfl (.inl rfl) ?_))
  refine sd_if 44 rfl (fun c4 => ?_) (fun c4 => ?_)
  rotate_left
  · have hp : prevE x.evs i = none := by unfold prevE; rw [if_pos (by omega)]
    rw [hp, if_neg (by simp [lateB])] at hg
    ((iterate 11 refine sd_1 rfl (.inl rfl) ?_); refine sd_1 rfl (.inr rfl) ?_; (iterate 2 refine sd_1 rfl (.inl rfl) ?_))
    refine sd_nil ?_
    (refine sn_then ?_; refine sw_cond_f rfl ?_; refine sw_skip ?_; refine sn_block ?_; refine sn_then ?_; refine sw_region ?_; refine so_1 rfl ?_; refine so_2 rfl (by (unfold I64; omega)) ?_; refine so_1 rfl ?_; refine so_nil ?_)
    rw [show (i : Int) + 1 = ((i + 1 : Nat) : Int) by omega]
    exact sn_round (i + 1) ⟨rfl, rfl, rfl, rfl, trivial⟩ (Ent.refl _) ⟨h1, by rw [hg, hpn]⟩ (by omega)
  obtain ⟨m, rfl⟩ : ∃ m, i = m + 1 := ⟨i - 1, by omega⟩
  have hm : m < x.evs.length := by omega
  have hpv : prevE x.evs (m + 1) = some x.evs[m] := by
    unfold prevE; rw [if_neg (by omega), Nat.add_sub_cancel]; exact List.getElem?_eq_getElem hm
  have hc2 : ∀ w, Sat b F w → ∀ j, j < 39 → w.cell? ⟨gg, oo + m * 39 + j, none⟩ = (evC x.evs[m])[j]? := fun w H j hj => ev_cell (by have := (hx w H).ev; rw [hxv] at this; exact this) he32 hm hj
  have her2 : ∀ w, Sat b F w → ER w x.evs[m] := fun w H => (hx w H).ev.er _ (List.getElem_mem hm)
  have hm32 := he32 _ (List.getElem_mem hm)
  have hpl := hev _ (List.getElem_mem hm)
  have epred : (((m + 1 : Nat) : Int) - 1).toNat = m := by omega
  rw [hpv] at hg
  generalize x.evs[m] = p at *
  have pl := evC_len hm32
  (refine sd_1 rfl (.inl rfl) ?_; refine sd_l 0 rfl rfl rfl rfl ?_; refine sd_1 rfl (.inl rfl) ?_; refine sd_2 rfl rfl (by (unfold I64; omega)) ?_)
  rw [hxv]
  (refine sd_2 rfl rfl (by omega) ?_)
  refine sd_rd rfl (fun w H => ex_loadN (cs := evC p) rfl rfl rfl pl (fun j hj => by rw [pl] at hj; rw [mulz_eq, epred]; exact hc2 w (H.ent (ent_keep 1 [] rfl rfl)) j hj)) rfl rfl ?_
  (refine sd_1 rfl (.inl rfl) ?_; refine sd_l 0 rfl rfl rfl rfl ?_; refine sd_1 rfl (.inl rfl) ?_)
  rw [hxv]
  (refine sd_2 rfl rfl (by omega) ?_)
  refine sd_rd rfl (fun w H => ex_loadN (cs := evC e) rfl rfl rfl el (fun j hj => by rw [el] at hj; rw [mulz_eq, Int.toNat_natCast]; exact hc w (H.ent (ent_keep 1 [] rfl rfl)) j hj)) rfl rfl ?_
  refine sd_callE rfl rfl rfl rfl (rLess_S (fun w H => her2 w (H.ent (ent_keep 1 [] rfl rfl))) (fun w H => her w (H.ent (ent_keep 1 [] rfl rfl))) hpl.dn hel.dn) (Ent.refl _) ?_
  cases hq : evLt p e with
  | true =>
    rw [if_neg (by simp [lateB, hq])] at hg
    ((iterate 2 refine sd_1 rfl (.inl rfl) ?_))
    refine sd_nil ?_
    (refine sn_then ?_; refine sw_cond_f rfl ?_; refine sw_skip ?_; refine sn_block ?_; refine sn_then ?_; refine sw_region ?_; refine so_1 rfl ?_; refine so_2 rfl (by (unfold I64; omega)) ?_; refine so_1 rfl ?_; refine so_nil ?_)
    rw [show ((m + 1 : Nat) : Int) + 1 = ((m + 1 + 1 : Nat) : Int) by omega]
    exact sn_round (m + 1 + 1) ⟨rfl, rfl, rfl, rfl, trivial⟩ (Ent.refl _) ⟨h1, by rw [hg, hpn]⟩ (by omega)
  | false =>
    rw [if_pos (by simp [lateB, hq])] at hg
    ((iterate 2 refine sd_1 rfl (.inl rfl) ?_))
    refine sd_nil ?_
    (refine sn_then ?_; refine sw_cond_t rfl ?_; refine sw_seq (sw_region ?_); refine so_1 rfl ?_; refine so_nil (sn_then ?_); refine sw_ret ?_; refine sn_block_ret ?_; refine sn_then_ret ?_; refine sn_loop_ret ?_; refine sn_block_ret ?_; refine sn_then_ret ?_)
    refine sn_ret rfl (.tmp rfl .nil) (ent_keep 1 [] rfl rfl) ?_
    exact ⟨by rw [hg]; rfl, rfl⟩
set_option maxRecDepth 20000 in
set_option maxHeartbeats 8000000 in
theorem rCheckT_S (hx : ∀ w, Sat b F w → LR w x) (hw : LW x) (hl : LtL x) : SC Tryz.prog n_entrepotref25_Check [ltV x, .int .i64 n, .int .i64 w0] b F (fun u F' => u = .int .i64 (chkT x n w0) ∧ F' = F) := by
  have h32 := hw.id.1
  have hOf : ∀ {F' : List SP} {vb : Value}, (∀ w, Sat b F' w → VL (Value.int .u8) w vb x.bs) → SC Tryz.prog n_entrepotref02_Of [vb, .int .i64 w0] b F' (fun v G => v = .tuple ⟨[idV (cutR (sumM x.bs) w0), .int .i64 (cutE w0)]⟩ ∧ G = F') := fun h => by
    have := refOf_S (w := w0) hl.bs h
    rwa [sum_RM] at this
  have hcl := cutR_len (sumM x.bs) w0 (sumM_len x.bs)
  refine enterS F_entrepotref25_Check rfl rfl rfl ?_
  refine sw_fact (fun w H => (hx w H).bv.form) ?_
  rintro ⟨A2, c2, hbv, _, _, _, _⟩
  have xl := ltC_len h32
  (refine sw_seq (sw_region ?_))
  refine so_box rfl rfl rfl rfl rfl fun g3 => ?_
  (refine so_1 rfl ?_; refine so_nil (sn_then ?_); refine sw_seq ?_; refine sw_block ?_; refine sw_seq (sw_region ?_); (iterate 3 refine so_1 rfl ?_))
  refine so_if 12 rfl (fun k1 => ?_) (fun k12 => ?_)
  · have hr : chkT x n w0 = 3 := by unfold chkT; rw [if_pos (by omega)]
    ((iterate 12 refine so_1 rfl ?_); refine so_nil (sn_then ?_); refine sw_cond_t rfl ?_; refine sw_seq (sw_region ?_); refine so_1 rfl ?_; refine so_nil (sn_then ?_); refine sw_ret ?_; refine sn_block_ret ?_; refine sn_then_ret ?_)
    refine sn_ret rfl (.tmp rfl .nil) (ent_keep 1 [] rfl rfl) ?_
    rw [hr]; exact ⟨rfl, rfl⟩
  ((iterate 4 refine so_1 rfl ?_))
  refine so_if 16 rfl (fun k1 => ?_) (fun k16 => ?_)
  · have hr : chkT x n w0 = 3 := by unfold chkT; rw [if_pos (by omega)]
    ((iterate 8 refine so_1 rfl ?_); refine so_nil (sn_then ?_); refine sw_cond_t rfl ?_; refine sw_seq (sw_region ?_); refine so_1 rfl ?_; refine so_nil (sn_then ?_); refine sw_ret ?_; refine sn_block_ret ?_; refine sn_then_ret ?_)
    refine sn_ret rfl (.tmp rfl .nil) (ent_keep 1 [] rfl rfl) ?_
    rw [hr]; exact ⟨rfl, rfl⟩
  ((iterate 4 refine so_1 rfl ?_))
  refine so_if 20 rfl (fun k1 => ?_) (fun k20 => ?_)
  · have hr : chkT x n w0 = 3 := by unfold chkT; rw [if_pos (by omega)]
    ((iterate 4 refine so_1 rfl ?_); refine so_nil (sn_then ?_); refine sw_cond_t rfl ?_; refine sw_seq (sw_region ?_); refine so_1 rfl ?_; refine so_nil (sn_then ?_); refine sw_ret ?_; refine sn_block_ret ?_; refine sn_then_ret ?_)
    refine sn_ret rfl (.tmp rfl .nil) (ent_keep 1 [] rfl rfl) ?_
    rw [hr]; exact ⟨rfl, rfl⟩
  ((iterate 4 refine so_1 rfl ?_); refine so_nil (sn_then ?_))
  refine sw_if rfl (fun k4 => ?_) (fun k4 => ?_)
  · have hr : chkT x n w0 = 3 := by unfold chkT; rw [if_pos (by omega)]
    (refine sw_seq (sw_region ?_); refine so_1 rfl ?_; refine so_nil (sn_then ?_); refine sw_ret ?_; refine sn_block_ret ?_; refine sn_then_ret ?_)
    refine sn_ret rfl (.tmp rfl .nil) (ent_keep 1 [] rfl rfl) ?_
    rw [hr]; exact ⟨rfl, rfl⟩
  (refine sw_seq (sw_region ?_))
  refine so_ldA 0 rfl rfl rfl rfl rfl rfl (segO_all (by rw [xl]; rfl)) rfl ?_
  (refine so_1 rfl ?_)
  refine so_callE rfl rfl rfl (rheaded_S (fun w H => hx w (H.ent (ent_keep 1 [] rfl rfl))) hl.seen) ?_
  cases hh : headT x n with
  | false =>
    have hr : chkT x n w0 = 2 := by unfold chkT; rw [if_neg (by omega), if_pos hh]
    ((iterate 2 refine so_1 rfl ?_); refine so_nil (sn_then ?_); refine sw_cond_t rfl ?_; refine sw_seq (sw_region ?_); refine so_1 rfl ?_; refine so_nil (sn_then ?_); refine sw_ret ?_; refine sn_block_ret ?_; refine sn_then_ret ?_)
    refine sn_ret rfl (.tmp rfl .nil) (ent_keep 1 [] rfl rfl) ?_
    rw [hr]; exact ⟨rfl, rfl⟩
  | true =>
  ((iterate 2 refine so_1 rfl ?_); refine so_nil (sn_then ?_); refine sw_cond_f rfl ?_; refine sw_seq (sw_region ?_); refine so_1 rfl ?_; refine so_l 0 rfl rfl rfl ?_; (iterate 2 refine so_1 rfl ?_))
  refine so_if 33 rfl (fun k5 => ?_) (fun k5 => ?_)
  · have hr : chkT x n w0 = 5 := by unfold chkT; rw [if_neg (by omega), if_neg (by rw [hh]; simp), if_pos (.inl k5)]
    ((iterate 5 refine so_1 rfl ?_); refine so_nil (sn_then ?_); refine sw_cond_t rfl ?_; refine sw_seq (sw_region ?_); refine so_1 rfl ?_; refine so_nil (sn_then ?_); refine sw_ret ?_; refine sn_block_ret ?_; refine sn_then_ret ?_)
    refine sn_ret rfl (.tmp rfl .nil) (ent_keep 1 [] rfl rfl) ?_
    rw [hr]; exact ⟨rfl, rfl⟩
  (refine so_1 rfl ?_; refine so_l 0 rfl rfl rfl ?_; (iterate 3 refine so_1 rfl ?_); refine so_nil (sn_then ?_))
  refine sw_if rfl (fun k6 => ?_) (fun k6 => ?_)
  · have hr : chkT x n w0 = 5 := by unfold chkT; rw [if_neg (by omega), if_neg (by rw [hh]; simp), if_pos (.inr k6)]
    (refine sw_seq (sw_region ?_); refine so_1 rfl ?_; refine so_nil (sn_then ?_); refine sw_ret ?_; refine sn_block_ret ?_; refine sn_then_ret ?_)
    refine sn_ret rfl (.tmp rfl .nil) (ent_keep 1 [] rfl rfl) ?_
    rw [hr]; exact ⟨rfl, rfl⟩
  have hr : chkT x n w0 = kindT x n w0 := by unfold chkT; rw [if_neg (by omega), if_neg (by rw [hh]; simp), if_neg (by omega)]
  (refine sw_seq (sw_region ?_))
  refine so_ldA 0 rfl rfl rfl rfl rfl rfl (segO_all (by rw [xl]; rfl)) rfl ?_
  refine so_callE rfl rfl rfl (rplain_S h32 (fun w H => hx w (H.ent (ent_keep 1 [] rfl rfl)))) ?_
  cases hp : plainT x with
  | false =>
    rw [kindT_odd (by omega) hp] at hr
    ((iterate 2 refine so_1 rfl ?_); refine so_nil (sn_then ?_); refine sw_cond_t rfl ?_; refine sw_seq (sw_region ?_); refine so_1 rfl ?_; refine so_nil (sn_then ?_); refine sw_ret ?_; refine sn_block_ret ?_; refine sn_then_ret ?_)
    refine sn_ret rfl (.tmp rfl .nil) (ent_keep 1 [] rfl rfl) ?_
    rw [hr]; exact ⟨rfl, rfl⟩
  | true =>
  ((iterate 2 refine so_1 rfl ?_); refine so_nil (sn_then ?_); refine sw_cond_f rfl ?_; refine sw_seq (sw_region ?_); refine so_1 rfl ?_; refine so_l 0 rfl rfl rfl ?_; (iterate 2 refine so_1 rfl ?_); refine so_nil (sn_then ?_))
  refine sw_if rfl (fun k7 => ?_) (fun k7 => ?_)
  · rw [kindT_evs (by omega) hp] at hr
    (refine sw_seq (sw_region ?_))
    refine so_ldA 0 rfl rfl rfl rfl rfl rfl (segO_all (by rw [xl]; rfl)) rfl ?_
    ((iterate 2 refine so_1 rfl ?_))
    refine so_callE rfl rfl rfl (revents_S (fun w H => hx w (H.ent (ent_keep 1 [] rfl rfl))) hw hl.ev) ?_
    (refine so_1 rfl ?_; refine so_nil (sn_then ?_); refine sw_ret ?_; refine sn_block_ret ?_; refine sn_then_ret ?_)
    refine sn_ret rfl (.tmp rfl .nil) (ent_keep 1 [] rfl rfl) ?_
    rw [hr]; exact ⟨rfl, rfl⟩
  rw [kindT_dot (by omega) hp] at hr
  (refine sw_skip ?_; refine sn_block ?_; refine sn_then ?_; refine sw_seq (sw_region ?_); refine so_1 rfl ?_)
  refine so_ld 0 rfl rfl rfl rfl rfl rfl (ltC_bv h32) rfl ?_
  (refine so_1 rfl ?_)
  refine so_callE rfl rfl rfl (hOf (fun w H => (hx w (H.ent (ent_keep 1 [] rfl rfl))).bv)) ?_
  ((iterate 3 refine so_1 rfl ?_))
  refine so_new rfl rfl rfl rfl rfl fun g7 => ?_
  refine so_stW 0 rfl rfl rfl rfl rfl rfl rfl (by rw [u8s_len, hcl]; rfl) (u8s_one _) (by simp [hcl]) ?_
  (refine so_1 rfl ?_; refine so_nil (sn_then ?_); refine sw_seq ?_; refine sw_block ?_; refine sw_seq (sw_region ?_); (iterate 2 refine so_1 rfl ?_); refine so_l 1 rfl rfl rfl ?_; (iterate 2 refine so_1 rfl ?_))
  refine so_if 62 rfl (fun q1 => ?_) (fun q1 => ?_)
  · have hd : dotT x n w0 = 2 := by unfold dotT; rw [if_pos (by omega)]
    rw [hd, if_pos (by decide)] at hr
    ((iterate 19 refine so_1 rfl ?_); refine so_nil (sn_then ?_); refine sw_cond_t rfl ?_; refine sw_seq (sw_region ?_); refine so_1 rfl ?_; refine so_nil (sn_then ?_); refine sw_ret ?_; refine sn_block_ret ?_; refine sn_then_ret ?_)
    refine sn_ret rfl (.tmp rfl .nil) (ent_keep 2 [] rfl rfl) ?_
    rw [hr]; exact ⟨rfl, rfl⟩
  ((iterate 2 refine so_1 rfl ?_); refine so_l 1 rfl rfl rfl ?_; (iterate 4 refine so_1 rfl ?_))
  refine so_if 69 rfl (fun q2 => ?_) (fun q2 => ?_)
  · have hd : dotT x n w0 = 2 := by unfold dotT; rw [if_pos (by omega)]
    rw [hd, if_pos (by decide)] at hr
    ((iterate 12 refine so_1 rfl ?_); refine so_nil (sn_then ?_); refine sw_cond_t rfl ?_; refine sw_seq (sw_region ?_); refine so_1 rfl ?_; refine so_nil (sn_then ?_); refine sw_ret ?_; refine sn_block_ret ?_; refine sn_then_ret ?_)
    refine sn_ret rfl (.tmp rfl .nil) (ent_keep 2 [] rfl rfl) ?_
    rw [hr]; exact ⟨rfl, rfl⟩
  ((iterate 2 refine so_1 rfl ?_); refine so_l 1 rfl rfl rfl ?_; (iterate 3 refine so_1 rfl ?_))
  refine so_if 75 rfl (fun q3 => ?_) (fun q3 => ?_)
  · have hd : dotT x n w0 = 2 := by unfold dotT; rw [if_pos (by omega)]
    rw [hd, if_pos (by decide)] at hr
    ((iterate 6 refine so_1 rfl ?_); refine so_nil (sn_then ?_); refine sw_cond_t rfl ?_; refine sw_seq (sw_region ?_); refine so_1 rfl ?_; refine so_nil (sn_then ?_); refine sw_ret ?_; refine sn_block_ret ?_; refine sn_then_ret ?_)
    refine sn_ret rfl (.tmp rfl .nil) (ent_keep 2 [] rfl rfl) ?_
    rw [hr]; exact ⟨rfl, rfl⟩
  ((iterate 2 refine so_1 rfl ?_); refine so_l 1 rfl rfl rfl ?_; (iterate 3 refine so_1 rfl ?_); refine so_nil (sn_then ?_))
  refine sw_if rfl (fun q4 => ?_) (fun q4 => ?_)
  · have hd : dotT x n w0 = 2 := by unfold dotT; rw [if_pos (by omega)]
    rw [hd, if_pos (by decide)] at hr
    (refine sw_seq (sw_region ?_); refine so_1 rfl ?_; refine so_nil (sn_then ?_); refine sw_ret ?_; refine sn_block_ret ?_; refine sn_then_ret ?_)
    refine sn_ret rfl (.tmp rfl .nil) (ent_keep 2 [] rfl rfl) ?_
    rw [hr]; exact ⟨rfl, rfl⟩
  have hd : dotT x n w0 = if hasM x.id w0 = true then 0 else 8 := by unfold dotT; rw [if_neg (by omega)]
  (refine sw_seq (sw_region ?_); refine so_1 rfl ?_)
  refine so_ldA 1 rfl rfl rfl rfl rfl rfl (ltC_id h32) rfl ?_
  (refine so_1 rfl ?_)
  refine so_callE rfl rfl rfl (refHas_S h32) ?_
  cases hq : hasM x.id w0 with
  | false =>
    rw [if_neg (by rw [hq]; simp)] at hd
    rw [hd, if_pos (by decide)] at hr
    ((iterate 2 refine so_1 rfl ?_); refine so_nil (sn_then ?_); refine sw_cond_t rfl ?_; refine sw_seq (sw_region ?_); refine so_1 rfl ?_; refine so_nil (sn_then ?_); refine sw_ret ?_; refine sn_block_ret ?_; refine sn_then_ret ?_)
    refine sn_ret rfl (.tmp rfl .nil) (ent_keep 2 [] rfl rfl) ?_
    rw [hr]; exact ⟨rfl, rfl⟩
  | true =>
  rw [if_pos hq] at hd
  rw [hd, if_neg (by simp)] at hr
  ((iterate 2 refine so_1 rfl ?_); refine so_nil (sn_then ?_); refine sw_cond_f rfl ?_; refine sw_seq (sw_region ?_); refine so_1 rfl ?_)
  refine so_ld 1 rfl rfl rfl rfl rfl rfl (ltC_bv h32) rfl ?_
  rw [hbv]
  ((iterate 3 refine so_1 rfl ?_); refine so_nil (sn_then ?_))
  refine sw_if rfl (fun q5 => ?_) (fun q5 => ?_)
  · rw [if_pos (by omega)] at hr
    (refine sw_seq (sw_region ?_); refine so_1 rfl ?_; refine so_nil (sn_then ?_); refine sw_ret ?_; refine sn_block_ret ?_; refine sn_then_ret ?_)
    refine sn_ret rfl (.tmp rfl .nil) (ent_keep 2 [] rfl rfl) ?_
    rw [hr]; exact ⟨rfl, rfl⟩
  rw [if_neg (by omega)] at hr
  (refine sw_seq (sw_region ?_); refine so_1 rfl ?_; refine so_l 1 rfl rfl rfl ?_; (iterate 2 refine so_1 rfl ?_))
  refine so_if 96 rfl (fun q6 => ?_) (fun q6 => ?_)
  rotate_left
  · rw [if_neg (fun h => q6 h.1)] at hr
    ((iterate 6 refine so_1 rfl ?_); refine so_nil (sn_then ?_); refine sw_cond_f rfl ?_; refine sw_skip ?_; refine sn_block ?_; refine sn_then ?_; refine sw_seq (sw_region ?_); refine so_1 rfl ?_; refine so_nil (sn_then ?_); refine sw_ret ?_)
    refine sn_ret rfl (.tmp rfl .nil) (ent_keep 2 [] rfl rfl) ?_
    rw [hr]; exact ⟨rfl, rfl⟩
  skip
  refine so_ldA 0 rfl rfl rfl rfl rfl rfl (segID hcl) rfl ?_
  (refine so_1 rfl ?_)
  refine so_ldA 1 rfl rfl rfl rfl rfl rfl (ltC_id h32) rfl ?_
  refine so_pu rfl (pu_neI (as00 := cutR (sumM x.bs) w0) (bs := x.id) rfl rfl hcl h32) rfl ?_
  by_cases q7 : cutR (sumM x.bs) w0 = x.id
  · rw [if_neg (fun h => h.2 q7)] at hr
    refine so_know 100 (.bool false) rfl (by rw [decide_eq_true q7]; rfl) ?_
    ((iterate 2 refine so_1 rfl ?_); refine so_nil (sn_then ?_); refine sw_cond_f rfl ?_; refine sw_skip ?_; refine sn_block ?_; refine sn_then ?_; refine sw_seq (sw_region ?_); refine so_1 rfl ?_; refine so_nil (sn_then ?_); refine sw_ret ?_)
    refine sn_ret rfl (.tmp rfl .nil) (ent_keep 2 [] rfl rfl) ?_
    rw [hr]; exact ⟨rfl, rfl⟩
  · rw [if_pos ⟨q6, q7⟩] at hr
    refine so_know 100 (.bool true) rfl (by rw [decide_eq_false q7]; rfl) ?_
    ((iterate 2 refine so_1 rfl ?_); refine so_nil (sn_then ?_); refine sw_cond_t rfl ?_; refine sw_seq (sw_region ?_); refine so_1 rfl ?_; refine so_nil (sn_then ?_); refine sw_ret ?_; refine sn_block_ret ?_; refine sn_then_ret ?_)
    refine sn_ret rfl (.tmp rfl .nil) (ent_keep 2 [] rfl rfl) ?_
    rw [hr]; exact ⟨rfl, rfl⟩
end
end Go.Proofs.YtmeiadgpglpelaaGreat
/- Letters as bytes: the document's Encode; both check and encode alike (LetterChecks). Conditions: none. -/
namespace Go.Proofs.YtmeiadgpglpelaaGreat
open Go Go.Eng Go.RowKit

theorem firstE_snoc (l : List Ev) (e : Ev) : firstE (l ++ [e]) = if firstE l = 0 then (encE e).2 else firstE l := by
  induction l with
  | nil =>
    simp only [List.nil_append, firstE, if_true]
    by_cases h : (encE e).2 ≠ 0
    · rw [if_pos h]
    · rw [if_neg h]; exact (Decidable.not_not.1 h).symm
  | cons x l ih =>
    have hc : ∀ m, firstE (x :: m) = if (encE x).2 ≠ 0 then (encE x).2 else firstE m := fun _ => rfl
    rw [List.cons_append, hc]
    by_cases h : (encE x).2 ≠ 0
    · have e1 : firstE (x :: l) = (encE x).2 := by rw [hc, if_pos h]
      rw [if_pos h, e1, if_neg h]
    · have e1 : firstE (x :: l) = firstE l := by rw [hc, if_neg h]
      rw [if_neg h, e1, ih]
section
variable {b : World} {F : List SP} {x : Lt}
set_option maxRecDepth 20000 in
set_option maxHeartbeats 8000000 in
theorem rEncodeT_S (hx : ∀ w, Sat b F w → LR w x) (hw : LW x) (hl : LtL x) : SC Tryz.prog n_entrepotref25_Encode [ltV x] b F (fun u F' => ∃ r, u = .tuple ⟨[r, .int .i64 (encT x).2]⟩ ∧ F' = rB r (encT x).1 :: F) := by
  have h32 := hw.id.1
  have hdot := hw.dot
  have he32 : ∀ e ∈ x.evs, e.id.length = 32 := fun e he => (hw.evs e he).l32
  refine enterS F_entrepotref25_Encode rfl rfl rfl ?_
  refine sw_fact (fun w H => sl_form (hx w H).ev.sl) ?_
  rintro ⟨A, c, hxv, h1, h2, h3, h4, _⟩
  (refine sw_seq (sw_region ?_))
  refine so_box rfl rfl rfl rfl rfl fun g1 => ?_
  ((iterate 2 refine so_1 rfl ?_); refine so_nil (sn_then ?_); (iterate 2 refine sw_seq ?_); refine sw_region ?_; refine so_1 rfl ?_; refine so_l 0 rfl rfl rfl ?_)
  rw [hxv]
  ((iterate 2 refine so_1 rfl ?_); refine so_nil (sn_then ?_))
  refine sw_if rfl (fun h => ?_) (fun h => ?_)
  · have hr : encT x = ([], 4) := by unfold encT; rw [if_pos (by omega)]
    (refine sw_seq (sw_region ?_); (iterate 2 refine so_1 rfl ?_); refine so_nil (sn_then ?_); refine sw_ret ?_; refine sn_then_ret ?_)
    refine sn_ret rfl (.tmp rfl (.tmp rfl .nil)) ((ent_keep 1 [] rfl rfl).trans (ent_row_nil t_uint8 1 rfl)) ?_
    rw [hr]
    exact ⟨_, rfl, rfl⟩
  have hn8 : x.evs.length ≤ 8 := by omega
  have hr0 : encT x = if firstE x.evs ≠ 0 then ([], firstE x.evs) else wdone (wputs 262144 (encTL x) ⟨[], 0⟩) := by unfold encT; rw [if_neg (by omega)]
  (refine sw_skip ?_; refine sn_then ?_; refine sw_seq (sw_region ?_))
  refine so_call rfl rfl rfl (fNewWriter_S (by decide) (by decide)) ?_
  rintro _ _ ⟨g, rfl, rfl⟩
  ((iterate 5 refine so_1 rfl ?_); refine so_nil (sn_then ?_); refine sw_seq (sw_region ?_); refine so_1 rfl ?_; refine so_nil (sn_then ?_); refine sw_seq (sw_region ?_); refine so_1 rfl ?_; refine so_nil (sn_then ?_); (iterate 2 refine sw_seq ?_); refine sw_region ?_; refine so_1 rfl ?_; refine so_nil (sn_then ?_); refine sw_block ?_)
  refine sw_loop (S := Nat × Value × List (Value × List Int)) (fun s => [(1, .pointer (some ⟨g1, 0, none⟩)), (4, .pointer (some ⟨g, 0, none⟩)), (6, .int .i64 (firstE (x.evs.take s.1))), (7, s.2.1), (8, .int .i64 (s.1 : Int))]) (fun s => rBs s.2.1 s.1 s.2.2 :: all (bF s.2.2) :: (fwP g (.slice none 0 0) 262144 ⟨[], 0⟩ ++ (pt g1 t_api_Letter (ltC x) :: F)))
    (fun s => s.1 ≤ x.evs.length ∧ s.2.2.map Prod.snd = (x.evs.take s.1).map (fun e => (encE e).1) ∧ s.2.2.length = s.1 ∧ ∀ p ∈ s.2.2, p.1.oneCell' = true) (fun s => x.evs.length - s.1) (0, nS, []) ⟨rfl, rfl, rfl, rfl, rfl, trivial⟩ ?_ ⟨Nat.zero_le _, rfl, rfl, fun _ h => by cases h⟩ ?_
  · exact (ent_close (G := [])).trans (ent_row_nil t_sl_uint8 1 rfl)
  rintro ⟨i, v, rs⟩ ⟨hi, hrs, hrl, ho⟩
  dsimp only at hi hrs hrl ho ⊢
  ((iterate 2 refine sw_seq ?_); refine sw_region ?_; (iterate 2 refine so_1 rfl ?_); refine so_l 4 rfl rfl rfl ?_)
  rw [hxv]
  ((iterate 2 refine so_1 rfl ?_); refine so_nil (sn_then ?_))
  refine sw_if rfl (fun h5 => ?_) (fun h5 => ?_)
  · have h5' : i < x.evs.length := by omega
    obtain ⟨gg, oo, rfl⟩ := h4 (by omega)
    have hmem := List.getElem_mem h5'
    have hc : ∀ w, Sat b F w → ∀ j, j < 39 → w.cell? ⟨gg, oo + i * 39 + j, none⟩ = (evC x.evs[i])[j]? := fun w H j hj => ev_cell (by have := (hx w H).ev; rw [hxv] at this; exact this) he32 h5' hj
    have her : ∀ w, Sat b F w → ER w x.evs[i] := fun w H => (hx w H).ev.er _ hmem
    have hew := hw.evs _ hmem
    have hel := hl.ev _ hmem
    have htk : x.evs.take (i + 1) = x.evs.take i ++ [x.evs[i]] := List.take_succ_eq_append_getElem h5'
    have hsn : (x.evs.take (i + 1)).map (fun e => (encE e).1) = (x.evs.take i).map (fun e => (encE e).1) ++ [(encE x.evs[i]).1] := by rw [htk, List.map_append]; rfl
    have hfi : firstE (x.evs.take (i + 1)) = if firstE (x.evs.take i) = 0 then (encE x.evs[i]).2 else firstE (x.evs.take i) := by rw [htk, firstE_snoc]
    clear htk
    generalize x.evs[i] = e at *
    have e32 := hew.l32
    have el := evC_len e32
    (refine sw_skip ?_; refine sn_then ?_; refine sw_seq ?_; refine sw_block ?_; refine sw_seq (sw_region ?_); refine so_1 rfl ?_; refine so_l 4 rfl rfl rfl ?_; refine so_1 rfl ?_)
    rw [hxv]
    (refine so_2 rfl (by omega) ?_)
    refine so_rd rfl (fun w H => ex_loadN (cs := evC e) rfl rfl rfl el (fun j hj => by rw [el] at hj; rw [mulz_eq, Int.toNat_natCast]; exact hc w (H.ent (ent_keep 5 [] rfl rfl)) j hj)) rfl ?_
    refine so_call rfl rfl rfl (rEncode_S (fun w H => her w (H.ent (ent_keep 5 [] rfl rfl))) hew hel) ?_
    rintro _ _ ⟨r, rfl, rfl⟩
    have hbl := enc_len e
    generalize encE e = E at *
    obtain ⟨B, bf⟩ := E
    dsimp only at *
    refine so_fact (fun w H => (H.oat (k := 0) rfl).form) ?_
    rintro ⟨Ar, cr, rfl, _, _, _⟩
    ((iterate 5 refine so_1 rfl ?_))
    refine so_nil (sn_then ?_)
    generalize firstE (x.evs.take i) = fi at hfi ⊢
    generalize hfj : firstE (x.evs.take (i + 1)) = fj at hfi ⊢
    refine sw_mid (S := Unit) (fun _ => [(1, .pointer (some ⟨g1, 0, none⟩)), (4, .pointer (some ⟨g, 0, none⟩)), (6, .int .i64 fj), (7, v), (8, .int .i64 (i : Int)), (9, .slice Ar B.length cr)]) (fun _ => rB (.slice Ar B.length cr) B :: rBs v i rs :: all (bF rs) :: (fwP g (.slice none 0 0) 262144 ⟨[], 0⟩ ++ (pt g1 t_api_Letter (ltC x) :: F))) (fun _ => True) ?_ ?_
    · (refine sw_seq (sw_region ?_); (iterate 2 refine so_1 rfl ?_); refine so_nil (sn_then ?_))
      refine sw_if rfl (fun h6 => ?_) (fun h6 => ?_)
      · rw [if_pos h6] at hfi
        subst hfi
        (refine sw_region ?_; (iterate 2 refine so_1 rfl ?_); refine so_nil ?_)
        exact sn_mid () ⟨rfl, rfl, rfl, rfl, rfl, rfl, trivial⟩ (Ent.refl _) trivial
      · rw [if_neg h6] at hfi
        subst hfi
        (refine sw_skip ?_)
        exact sn_mid () ⟨rfl, rfl, rfl, rfl, rfl, rfl, trivial⟩ (Ent.refl _) trivial
    rintro ⟨⟩ _
    (refine sw_region ?_; (iterate 2 refine so_1 rfl ?_))
    refine so_lit [.slice Ar B.length cr] rfl rfl rfl rfl rfl rfl rfl rfl rfl fun gl => ?_
    refine so_append (m := 1) (news := [.slice Ar B.length cr]) 2 rfl rfl rfl rfl rfl rfl rfl rfl rfl (fun w H => (H.blk (k := 0) rfl).sl rfl (by decide)) (by simp [Value.oneCell']) (by omega) (fun _ => rfl) fun v2 => ?_
    (refine so_1 rfl ?_; refine so_nil ?_; refine sn_block ?_; refine sn_then ?_; refine sw_region ?_; refine so_1 rfl ?_; refine so_2 rfl (by (unfold I64; omega)) ?_; refine so_1 rfl ?_; refine so_nil ?_)
    rw [show (i : Int) + 1 = ((i + 1 : Nat) : Int) by omega]
    refine sn_ent (G := [rB (.slice Ar B.length cr) B] ++ all (bF rs) :: rBs v2 (i + 1) (rs ++ [(.slice Ar B.length cr, B)]) :: (fwP g (.slice none 0 0) 262144 ⟨[], 0⟩ ++ (pt g1 t_api_Letter (ltC x) :: F))) (by
      rw [rBs, List.map_append]; exact ent_keep 4 [1, 3, 2] rfl rfl) ?_
    refine sn_ent (ent_in (A := bF (rs ++ [(.slice Ar B.length cr, B)])) bF_snoc) ?_
    refine sn_round (i + 1, v2, rs ++ [(.slice Ar B.length cr, B)]) ⟨rfl, rfl, ?_, rfl, rfl, trivial⟩ (ent_keep 2 [1, 0] rfl rfl) ⟨h5', ?_, by simp [hrl], fun p hp => ?_⟩ (by dsimp only; omega)
    · exact congrArg (fun q => some (Value.int .i64 q)) hfj.symm
    · dsimp only
      rw [List.map_append, hrs, hsn]; rfl
    · rcases List.mem_append.1 hp with hp | hp
      · exact ho p hp
      · rw [List.mem_singleton.1 hp]; rfl
  obtain rfl : i = x.evs.length := by omega
  rw [List.take_length] at hrs ⊢
  refine sw_fact (fun w H => sl_form (H.oat (k := 0) rfl).sl) ?_
  rintro ⟨Aa, ca, rfl, _, _, _, a4, _⟩
  (refine sw_exit ?_; refine sn_then_exit ?_; refine sn_loop_exit ?_; refine sn_block_exit ?_; refine sn_then ?_; (iterate 2 refine sw_seq ?_); refine sw_region ?_; (iterate 2 refine so_1 rfl ?_); refine so_nil (sn_then ?_))
  refine sw_ifn rfl (fun h6 => ?_) (fun h6 => ?_)
  · have hr : encT x = ([], firstE x.evs) := by rw [hr0, if_pos h6]
    (refine sw_seq (sw_region ?_); (iterate 3 refine so_1 rfl ?_); refine so_nil (sn_then ?_); refine sw_ret ?_; refine sn_then_ret ?_)
    refine sn_ret rfl (.tmp rfl (.tmp rfl .nil)) ((ent_keep 5 [] rfl rfl).trans (ent_row_nil t_uint8 1 rfl)) ?_
    rw [hr]
    exact ⟨_, rfl, rfl⟩
  have hr : encT x = wdone (wputs 262144 (encTL x) ⟨[], 0⟩) := by rw [hr0, if_neg (by simpa using h6)]
  clear hr0
  have hcell : ∀ j (hj : j < rs.length), ∀ w, Sat b (all (bF rs) :: F) w → VL (Value.int .u8) w rs[j].1 rs[j].2 := fun j hj => bF_vl (k := 0) rfl (List.getElem_mem hj)
  have hblen : ∀ p ∈ rs, p.2.length ≤ 16384 := fun p hp => by
    have h9 : p.2 ∈ rs.map Prod.snd := List.mem_map_of_mem hp
    rw [hrs] at h9
    obtain ⟨e, _, he⟩ := List.mem_map.1 h9
    rw [← he]; exact enc_len e
  refine sw_ent (G := fwP g (.slice none 0 0) 262144 ⟨[], 0⟩ ++ (rBs (.slice Aa x.evs.length ca) x.evs.length rs :: all (bF rs) :: pt g1 t_api_Letter (ltC x) :: F)) (ent_keep 5 [2, 3, 0, 1, 4] rfl rfl) ?_
  (refine sw_skip ?_; refine sn_then ?_; refine sw_seq (sw_region ?_); (iterate 2 refine so_1 rfl ?_); refine so_l 4 rfl rfl rfl ?_)
  refine so_call rfl rfl rfl (fwNum_S hw.kind (by decide) (by decide)) ?_
  rintro _ _ ⟨v1, rfl⟩
  have k1 := wput_len (lim := 262144) (p := pNum x.kind) (s := ⟨[], 0⟩) (by decide)
  (refine so_nil (sn_then ?_); refine sw_seq (sw_region ?_); (iterate 2 refine so_1 rfl ?_); refine so_l 4 rfl rfl rfl ?_)
  refine so_call rfl rfl rfl (fwNum_S hw.from' (by decide) k1) ?_
  rintro _ _ ⟨v2, rfl⟩
  have k2 := wput_len (p := pNum x.from') k1
  (refine so_nil (sn_then ?_); refine sw_seq (sw_region ?_); (iterate 2 refine so_1 rfl ?_); refine so_l 4 rfl rfl rfl ?_)
  refine so_call rfl rfl rfl (fwNum_S hw.to' (by decide) k2) ?_
  rintro _ _ ⟨v3, rfl⟩
  have k3 := wput_len (p := pNum x.to') k2
  (refine so_nil (sn_then ?_); refine sw_seq (sw_region ?_); (iterate 2 refine so_1 rfl ?_); refine so_l 4 rfl rfl rfl ?_)
  refine so_call rfl rfl rfl (fwVec_S (fun w H => (hx w (H.ent (ent_keep 3 [] rfl rfl))).sv) hw.seen hl.seen (by decide) k3) ?_
  rintro _ _ ⟨v4, rfl⟩
  have k4 := wput_len (p := pVec x.seen) k3
  (refine so_nil (sn_then ?_); refine sw_seq (sw_region ?_); (iterate 3 refine so_1 rfl ?_))
  refine so_call rfl rfl rfl (fwNum_S (n := x.evs.length) ⟨by omega, by omega⟩ (by decide) k4) ?_
  rintro _ _ ⟨v5, rfl⟩
  have k5 := wput_len (p := pNum x.evs.length) k4
  generalize hs5 : wput 262144 (pNum x.evs.length) (wput 262144 (pVec x.seen) (wput 262144 (pNum x.to') (wput 262144 (pNum x.from') (wput 262144 (pNum x.kind) ⟨[], 0⟩)))) = s5 at k5 ⊢
  (refine so_nil (sn_then ?_); (iterate 2 refine sw_seq ?_); refine sw_region ?_; refine so_1 rfl ?_; refine so_nil (sn_then ?_); refine sw_block ?_)
  refine sw_loop (S := Nat × Value) (fun t => [(1, .pointer (some ⟨g1, 0, none⟩)), (4, .pointer (some ⟨g, 0, none⟩)), (7, .slice Aa x.evs.length ca), (11, .int .i64 (t.1 : Int))]) (fun t => fwP g t.2 262144 (wputs 262144 ((rs.take t.1).map fun p => pBytes p.2) s5) ++ (rBs (.slice Aa x.evs.length ca) x.evs.length rs :: all (bF rs) :: pt g1 t_api_Letter (ltC x) :: F)) (fun t => t.1 ≤ x.evs.length) (fun t => x.evs.length - t.1) (0, v5) ⟨rfl, rfl, rfl, rfl, trivial⟩ (Ent.refl _) (Nat.zero_le _) ?_
  rintro ⟨i, v6⟩ hi
  dsimp only at hi ⊢
  have k6 := wputs_len ((rs.take i).map fun p => pBytes p.2) k5
  ((iterate 2 refine sw_seq ?_); refine sw_region ?_; (iterate 4 refine so_1 rfl ?_); refine so_nil (sn_then ?_))
  refine sw_if rfl (fun h5 => ?_) (fun h5 => ?_)
  · have h5' : i < rs.length := by omega
    obtain ⟨ga, oa, rfl⟩ := a4 (by omega)
    have hsn : (rs.take (i + 1)).map (fun p => pBytes p.2) = (rs.take i).map (fun p => pBytes p.2) ++ [pBytes rs[i].2] := by rw [List.take_succ_eq_append_getElem h5', List.map_append]; rfl
    have hmem := List.getElem_mem h5'
    have hbi := hblen _ hmem
    have hvi := hcell i h5'
    have hci : (rs.map Prod.fst)[i]? = some rs[i].1 := by rw [List.getElem?_map, List.getElem?_eq_getElem h5']; rfl
    generalize rs[i] = p at *
    obtain ⟨r, B⟩ := p
    dsimp only at *
    have h9 := numB_le9 B.length
    (refine sw_skip ?_; refine sn_then ?_; refine sw_seq ?_; refine sw_block ?_; refine sw_region ?_; (iterate 3 refine so_1 rfl ?_); refine so_2 rfl (by omega) ?_)
    refine so_rd rfl (fun w H => ex_load rfl rfl rfl (by rw [mulz_eq, Int.toNat_natCast, Nat.mul_one]; exact row_cell (k := 2) rfl hci w H)) rfl ?_
    skip
    refine so_call rfl rfl rfl (fBytes_S (xs := B) (fun w H => hvi w (H.ent (ent_keep 5 [3] rfl rfl))) (by omega)) ?_
    rintro rb _ rfl
    skip
    refine so_call rfl rfl rfl ((fPut_S (F := rB rb (numB B.length ++ B) :: rBs (.slice (some ⟨ga, oa, none⟩) x.evs.length ca) x.evs.length rs :: all (bF rs) :: pt g1 t_api_Letter (ltC x) :: F) (xs := numB B.length ++ B) (ns := []) (vlB (k := 0) rfl) vlN (by decide) k6 (by rw [List.length_append]; omega)).ent (ent_keep 3 [1, 2, 0] rfl rfl)) ?_
    rintro _ _ ⟨v7, rfl, rfl⟩
    (refine so_nil ?_; refine sn_block ?_; refine sn_then ?_; refine sw_region ?_; refine so_1 rfl ?_; refine so_2 rfl (by (unfold I64; omega)) ?_; refine so_1 rfl ?_; refine so_nil ?_)
    rw [show (i : Int) + 1 = ((i + 1 : Nat) : Int) by omega]
    refine sn_round (i + 1, v7) ⟨rfl, rfl, rfl, rfl, trivial⟩ ?_ (by dsimp only; omega) (by dsimp only; omega)
    dsimp only
    rw [hsn, wputs_snoc]
    exact ent_keep 3 [0, 1] rfl rfl
  obtain rfl : i = x.evs.length := by omega
  have hmid : (rs.take x.evs.length).map (fun p => pBytes p.2) = x.evs.map fun e => pBytes (encE e).1 := by
    rw [← hrl, List.take_length]
    have : rs.map (fun p => pBytes p.2) = (rs.map Prod.snd).map pBytes := by rw [List.map_map]; rfl
    rw [this, hrs, List.map_map]; rfl
  rw [hmid] at k6 ⊢
  (refine sw_exit ?_; refine sn_then_exit ?_; refine sn_loop_exit ?_; refine sn_block_exit ?_; refine sn_then ?_; refine sw_seq (sw_region ?_); (iterate 2 refine so_1 rfl ?_))
  refine so_ldA 4 rfl rfl rfl rfl rfl rfl ltC_dot rfl ?_
  refine so_call rfl rfl rfl (fwDot_S (i64_of hdot.1) (i64_of hdot.2) (by decide) k6) ?_
  rintro _ _ ⟨v8, rfl⟩
  have k8 := wput_len (p := pDot x.r x.n) k6
  (refine so_nil (sn_then ?_); refine sw_seq (sw_region ?_); (iterate 2 refine so_1 rfl ?_))
  refine so_ldA 4 rfl rfl rfl rfl rfl rfl (ltC_id h32) rfl ?_
  refine so_call rfl rfl rfl (fwID_S h32 (by decide) k8) ?_
  rintro _ _ ⟨v9, rfl⟩
  have k9 := wput_len (p := pID x.id) k8
  (refine so_nil (sn_then ?_); refine sw_seq (sw_region ?_); (iterate 2 refine so_1 rfl ?_))
  refine so_ld 4 rfl rfl rfl rfl rfl rfl (ltC_bv h32) rfl ?_
  have h9 := numB_le9 x.bs.length
  have hbs := hl.bs
  refine so_call rfl rfl rfl (fBytes_S (xs := x.bs) (fun w H => (hx w (H.ent (ent_keep 5 [] rfl rfl))).bv) (by omega)) ?_
  rintro rb _ rfl
  skip
  refine so_call rfl rfl rfl ((fPut_S (F := rB rb (numB x.bs.length ++ x.bs) :: rBs (.slice Aa x.evs.length ca) x.evs.length rs :: all (bF rs) :: pt g1 t_api_Letter (ltC x) :: F) (xs := numB x.bs.length ++ x.bs) (ns := []) (vlB (k := 0) rfl) vlN (by decide) k9 (by rw [List.length_append]; omega)).ent (ent_keep 3 [1, 2, 0] rfl rfl)) ?_
  rintro _ _ ⟨v10, rfl, rfl⟩
  have k10 := wput_len (p := pBytes x.bs) k9
  have hall : wputs 262144 (encTL x) ⟨[], 0⟩ = wput 262144 (pBytes x.bs) (wput 262144 (pID x.id) (wput 262144 (pDot x.r x.n) (wputs 262144 (x.evs.map fun e => pBytes (encE e).1) s5))) := by
    unfold encTL
    rw [wputs_app, wputs_app, ← hs5]; rfl
  refine so_ent (G := fwP g v10 262144 (wputs 262144 (encTL x) ⟨[], 0⟩) ++ (rB rb (numB x.bs.length ++ x.bs) :: rBs (.slice Aa x.evs.length ca) x.evs.length rs :: all (bF rs) :: pt g1 t_api_Letter (ltC x) :: F)) (by rw [hall]; exact Ent.refl _) ?_
  rw [← hall] at k10
  (refine so_nil (sn_then ?_); refine sw_seq (sw_region ?_); refine so_1 rfl ?_)
  refine so_call rfl rfl rfl (fDone_S (by omega)) ?_
  rintro _ _ ⟨r, rfl, rfl⟩
  ((iterate 4 refine so_1 rfl ?_); refine so_nil (sn_then ?_); refine sw_ret ?_)
  refine sn_ret rfl (.tmp rfl (.tmp rfl .nil)) (ent_keep 5 [0] rfl rfl) ?_
  rw [hr]
  exact ⟨r, rfl, rfl⟩
end
end Go.Proofs.YtmeiadgpglpelaaGreat
/- Letters: both check and encode alike (LetterChecks). Conditions: none. -/
namespace Go.Proofs.YtmeiadgpglpelaaGreat
open Go Go.Eng Go.RowKit

set_option maxRecDepth 20000 in
set_option maxHeartbeats 16000000 in
theorem walk_LetterChecks {W : World} {v : Value} {l : Lt} {n width : Int} (hA : LA W v l) : Calls Tryz.prog n_entrepotlaw25_LetterChecks #[v, .int .i64 n, .int .i64 width] W (fun e w' => e = .returned (.bool true) ∧ Ext W w') := by
  obtain ⟨rfl, hw, hlr0⟩ := id hA
  refine law_of (args := [ltV l, .int .i64 n, .int .i64 width]) ?_
  have hlr : ∀ {F : List SP} {k : Nat}, nth F k = some (Is W) → ∀ w, Sat W F w → LR w l := fun hk w H => hlr0.ext (H.is hk)
  have h32 := hw.id.1
  have xl := ltC_len h32
  have he32 : ∀ e ∈ l.evs, e.id.length = 32 := fun e he => (hw.evs e he).l32
  refine enterS F_entrepotlaw25_LetterChecks rfl rfl rfl ?_
  (refine sw_seq (sw_region ?_))
  refine so_box rfl rfl rfl rfl rfl fun g3 => ?_
  (refine so_1 rfl ?_; refine so_nil (sn_then ?_); (iterate 2 refine sw_seq ?_); refine sw_region ?_)
  refine so_ldA 0 rfl rfl rfl rfl rfl rfl (segO_all (by rw [xl]; rfl)) rfl ?_
  refine so_call rfl rfl rfl (LongLetter_S h32 he32 (hlr (k := 1) rfl)) ?_
  rintro _ _ ⟨q, hq, rfl, rfl⟩
  cases q with
  | true =>
    (refine so_nil (sn_then ?_); refine sw_cond_t rfl ?_; refine sw_seq (sw_region ?_))
    refine so_callE rfl rfl rfl (awake25_S) ?_
    (refine so_1 rfl ?_; refine so_nil (sn_then ?_); refine sw_ret ?_; refine sn_then_ret ?_)
    refine sn_ret rfl (.tmp rfl .nil) (ent_keep 1 [] rfl rfl) ?_
    exact ⟨rfl, rfl⟩
  | false =>
  have hL := hq rfl
  have hl := hA.long hL
  (refine so_nil (sn_then ?_); refine sw_cond_f rfl ?_; refine sw_skip ?_; refine sn_then ?_; refine sw_seq (sw_region ?_))
  refine so_ldA 0 rfl rfl rfl rfl rfl rfl (segO_all (by rw [xl]; rfl)) rfl ?_
  refine so_call rfl rfl rfl (gatherL (z := l) h32 ((CopyLetter_S h32 (hlr (k := 1) rfl) (fun e he => ⟨(hw.evs e he).l32, (hl.ev e he).dn, (hl.ev e he).rn⟩) hL))) ?_
  rintro _ _ ⟨y, ⟨hy, yl, y1⟩, rfl, rfl⟩
  have y32 : y.id.length = 32 := by rw [nL_id hy]; exact h32
  have hyw := lw_nL hy hw
  have hyl := ltl_nL hy hl
  refine so_new rfl rfl rfl rfl rfl fun g7 => ?_
  refine so_stW 0 rfl rfl rfl rfl rfl rfl rfl yl y1 (by rw [yl]; rfl) ?_
  (refine so_nil (sn_then ?_); refine sw_seq (sw_region ?_))
  refine so_ldA 0 rfl rfl rfl rfl rfl rfl (segO_all (by rw [yl]; rfl)) rfl ?_
  refine so_call rfl rfl rfl (EncodeT_S (lP_lr (y := y) (k := 1) rfl) hyw hyl.ev hyl.seen hyl.bs) ?_
  rintro _ _ ⟨r1, rfl, rfl⟩
  rw [encT_nL hy]
  ((iterate 5 refine so_1 rfl ?_); refine so_nil (sn_then ?_); refine sw_seq (sw_region ?_))
  refine so_ldA 3 rfl rfl rfl rfl rfl rfl (segO_all (by rw [xl]; rfl)) rfl ?_
  refine so_call rfl rfl rfl (rEncodeT_S (hlr (k := 4) rfl) hw hl) ?_
  rintro _ _ ⟨r2, rfl, rfl⟩
  have hlen : (encT l).1.length ≤ 262144 := by
    by_cases he : (encT l).2 = 0
    · obtain ⟨_, _, e1, e2, _⟩ := encT_ok he
      rw [e1]; exact e2
    · rw [encT_bad he]; exact Nat.zero_le _
  generalize encT l = E at *
  obtain ⟨B, f⟩ := E
  dsimp only at hlen ⊢
  ((iterate 5 refine so_1 rfl ?_); refine so_nil (sn_then ?_); refine sw_seq ?_)
  refine sw_draw flo (rB r2 B :: rB r1 B :: pt g7 t_api_Letter (ltC y) :: lP y :: pt g3 t_api_Letter (ltC l) :: [Is W]) (by decide +kernel) (Ent.refl _) ?_
  ((iterate 2 refine sd_1 rfl (.inl rfl) ?_))
  refine sd_callE rfl rfl rfl rfl ((SameBytes_T (xs := B) (vlB (k := 1) rfl) (vlB (k := 0) rfl))) (Ent.refl _) ?_
  ((iterate 6 refine sd_1 rfl (.inl rfl) ?_))
  refine sd_know 36 (.bool true) rfl (congrArg Value.bool (decide_eq_true rfl)) ?_
  skip
  refine sd_ldA 2 rfl rfl rfl rfl rfl rfl (segO_all (by rw [yl]; rfl)) rfl rfl ?_
  ((iterate 2 refine sd_1 rfl (.inl rfl) ?_))
  refine sd_callE rfl rfl rfl rfl ((CheckT_S (lP_lr (y := y) (k := 3) rfl) hyw hyl.ev hyl.seen hyl.bs)) (Ent.refl _) ?_
  skip
  refine sd_ldA 4 rfl rfl rfl rfl rfl rfl (segO_all (by rw [xl]; rfl)) rfl rfl ?_
  ((iterate 2 refine sd_1 rfl (.inl rfl) ?_))
  refine sd_callE rfl rfl rfl rfl ((rCheckT_S (hlr (k := 5) rfl) hw hl)) (Ent.refl _) ?_
  rw [chkT_nL hy]
  ((iterate 3 refine sd_1 rfl (.inl rfl) ?_))
  refine sd_nil ?_
  refine sn_ent (ent_keep 2 [1] rfl rfl) ?_
  (refine sn_then ?_; refine sw_seq (sw_region ?_); refine so_1 rfl ?_)
  refine so_call rfl rfl rfl (OverBytes_S (v := r1) (l := B) (by omega)) ?_
  rintro _ _ ⟨l', rfl⟩
  (refine so_nil (sn_then ?_); refine sw_seq (sw_region ?_); (iterate 2 refine so_1 rfl ?_))
  refine so_know 50 (.bool true) rfl (congrArg Value.bool (decide_eq_true rfl)) ?_
  skip
  refine so_ldA 1 rfl rfl rfl rfl rfl rfl (segO_all (by rw [yl]; rfl)) rfl ?_
  refine so_ldA 3 rfl rfl rfl rfl rfl rfl (segO_all (by rw [xl]; rfl)) rfl ?_
  refine so_callE rfl rfl rfl (SameLetter_S hy (lP_lr (y := y) (k := 2) rfl) (hlr (k := 4) rfl) y32 (ev_nE (P := fun e => e.id.length = 32 ∧ len32 e.refs ∧ e.refs.length ≤ 1000000) same_nE (nL_evs hy) (fun e he => ⟨he32 e he, (hw.evs e he).r32, (hl.ev e he).rn⟩))) ?_
  ((iterate 2 refine so_1 rfl ?_))
  refine so_callE rfl rfl rfl (awake25_S) ?_
  ((iterate 2 refine so_1 rfl ?_); refine so_nil (sn_then ?_); refine sw_ret ?_)
  refine sn_ret rfl (.tmp rfl .nil) (ent_keep 4 [] rfl rfl) ?_
  exact ⟨rfl, rfl⟩
end Go.Proofs.YtmeiadgpglpelaaGreat
/- Letters as bytes: the document's Decode. Conditions: not too many bytes. -/
namespace Go.Proofs.YtmeiadgpglpelaaGreat
open Go Go.Eng Go.RowKit

section
variable {b : World} {F : List SP} {B : List Int} {s : RS} {g : Nat} {vb : Value}
end
section
variable {b : World} {F : List SP} {B : List Int}
end
end Go.Proofs.YtmeiadgpglpelaaGreat
/- Letters: both decode alike (LetterDecodes). Conditions: none. -/
namespace Go.Proofs.YtmeiadgpglpelaaGreat
open Go Go.Eng Go.RowKit

section
variable {b : World} {F : List SP}
end
end Go.Proofs.YtmeiadgpglpelaaGreat
