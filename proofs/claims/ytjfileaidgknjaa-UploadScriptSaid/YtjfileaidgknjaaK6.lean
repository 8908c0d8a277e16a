/- Uploads, part fourteen: New. Conditions: none. -/
import Derived.Test.YtjfileaidgknjaaK5
import Derived.Test.YtjfileaidgknjaaK3
namespace Go.Proofs.Ytjfileaidgknjaa
open Go Go.Eng Go.RowKit

section
variable {b : World} {F : List SP} {w : Int}
theorem sls_nil (W : World) : SLs W (.slice none 0 0) [] := ⟨⟨none, 0, rfl, rfl, Nat.le_refl _, by decide, fun _ => rfl, fun h => absurd h (Nat.lt_irrefl 0)⟩, fun d hd => by simp at hd⟩
theorem uNew_bad (h : ¬ (1 ≤ w ∧ w ≤ 32)) : SC Try.prog n_upload_New [.int .i64 w] b F (fun v F' => v = .tuple ⟨[.pointer none, .int .i64 3]⟩ ∧ F' = F) := by
  refine enterS F_upload_New rfl rfl rfl ?_
  (refine sw_seq ?_; refine sw_region ?_; (iterate 2 refine so_1 rfl ?_); refine so_nil ?_; refine sn_then ?_; refine sw_seq ?_; refine sw_region ?_; refine so_1 rfl ?_)
  refine so_callE rfl rfl rfl (uLoad_range (fun hr => h ⟨hr.1, hr.2.1⟩)) ?_
  ((iterate 4 refine so_1 rfl ?_); refine so_nil ?_; refine sn_then ?_; refine sw_ret ?_)
  refine sn_ret rfl (.tmp rfl (.tmp rfl .nil)) (Ent.refl _) ?_
  exact ⟨rfl, rfl⟩
theorem uNew_S (h : 1 ≤ w ∧ w ≤ 32) : SC Try.prog n_upload_New [.int .i64 w] b F (fun v F' => ∃ g A c, v = .tuple ⟨[.pointer (some ⟨g, 0, none⟩), .int .i64 0]⟩ ∧ F' = tbU g w 1 A c 0 [] F) := by
  refine enterS F_upload_New rfl rfl rfl ?_
  (refine sw_seq ?_; refine sw_region ?_; (iterate 2 refine so_1 rfl ?_); refine so_nil ?_; refine sn_then ?_; refine sw_seq ?_; refine sw_region ?_; refine so_1 rfl ?_)
  refine so_call rfl rfl rfl (uLoad_S (l := []) ⟨h.1, h.2, by omega, by omega⟩ fun w _ => sls_nil w) ?_
  intro v F' hR
  rw [if_pos ⟨by simp, rfl⟩] at hR
  obtain ⟨g, A, c, L, rfl, hL, _, rfl⟩ := hR
  have hn : L = [] := by simpa using hL
  subst hn
  ((iterate 4 refine so_1 rfl ?_); refine so_nil ?_; refine sn_then ?_; refine sw_ret ?_)
  refine sn_ret rfl (.tmp rfl (.tmp rfl .nil)) (Ent.refl _) ?_
  exact ⟨g, A, c, rfl, rfl⟩
end
end Go.Proofs.Ytjfileaidgknjaa
/- Uploads, part fifteen: the document's table: place, Offset. Conditions: none. -/
namespace Go.Proofs.Ytjfileaidgknjaa
open Go Go.Eng Go.RowKit

abbrev tbR (g : Nat) (w nx : Int) (A : Option Addr) (c n : Nat) (D : List Ds) (F : List SP) : List SP := pt g t_entrepotref09_Table [.int .i64 w, .int .i64 nx, .slice A n c] :: rSn A c n D :: all (dsF D) :: F
section
variable {b : World} {F : List SP} {g : Nat} {w nx : Int} {A : Option Addr} {c n : Nat} {D : List Ds}
theorem rSn_cell {k gg oo : Nat} (hk : nth F k = some (rSn (some ⟨gg, oo, none⟩) c n D)) (hn : D.length = n) {i j : Nat} (hi : i < D.length) (hj : j < 3) : ∀ w, Sat b F w → w.cell? ⟨gg, oo + i * 3 + j, none⟩ = (dsC D[i])[j]? := fun w H => by
  subst hn
  exact fl_cell (H.oat hk).sl (dsC_len D) hi hj
theorem place_S {x : Int} {i : Nat} (hn : D.length = n) (h8 : n ≤ 1000) (hle : i ≤ n) (hb : ∀ j (hj : j < D.length), j < i → D[j].n ≠ x) (hi : ∀ h : i < D.length, D[i].n = x) :
    SC Try.prog n_p_entrepotref09_Table_place [.pointer (some ⟨g, 0, none⟩), .int .i64 x] b (tbR g w nx A c n D F) (fun v F' => v = .int .i64 (if i < n then (i : Int) else -1) ∧ F' = tbR g w nx A c n D F) := by
  refine enterS F_p_entrepotref09_Table_place rfl rfl rfl ?_
  refine sw_fact (fun w H => (H.oat (k := 1) rfl).form) ?_
  rintro ⟨A', c', hv, q1, q2, q3⟩
  simp only [Value.slice.injEq, true_and] at hv
  obtain ⟨rfl, rfl⟩ := hv
  (refine sw_seq ?_; refine sw_region ?_; refine so_1 rfl ?_; refine so_nil ?_; refine sn_then ?_; (iterate 2 refine sw_seq ?_); refine sw_region ?_; refine so_1 rfl ?_; refine so_nil ?_; refine sn_then ?_; refine sw_block ?_)
  refine sw_loop (S := Nat) (fun j => [(0, .pointer (some ⟨g, 0, none⟩)), (1, .int .i64 x), (5, .int .i64 j)]) (fun _ => tbR g w nx A c n D F) (fun j => j ≤ i) (fun j => n - j) 0 ⟨rfl, rfl, rfl, trivial⟩ (Ent.refl _) (Nat.zero_le _) ?_
  intro j hj
  ((iterate 2 refine sw_seq ?_); refine sw_region ?_; (iterate 4 refine so_1 rfl ?_); refine so_l 0 rfl rfl rfl ?_; (iterate 2 refine so_1 rfl ?_); refine so_nil ?_; refine sn_then ?_)
  refine sw_if rfl (fun h1 => ?_) (fun h1 => ?_)
  · have hjn : j < D.length := by omega
    obtain ⟨gg, oo, rfl⟩ := q3 (by omega)
    (refine sw_skip ?_; refine sn_then ?_; refine sw_seq ?_; refine sw_block ?_; refine sw_seq ?_; refine sw_region ?_; (iterate 3 refine so_1 rfl ?_); refine so_l 0 rfl rfl rfl ?_; refine so_1 rfl ?_; refine so_2 rfl (by omega) ?_; refine so_1 rfl ?_)
    refine so_rd rfl (fun w H => ex_load rfl rfl rfl (by rw [mulz_eq, Int.toNat_natCast]; exact rSn_cell (k := 1) rfl hn hjn (j := 0) (by decide) w H)) rfl ?_
    ((iterate 2 refine so_1 rfl ?_); refine so_nil ?_; refine sn_then ?_)
    refine sw_if rfl (fun h2 => ?_) (fun h2 => ?_)
    · have hji : j = i := by
        rcases Nat.lt_or_ge j i with h | h
        · exact absurd h2 (hb j hjn h)
        · omega
      subst hji
      (refine sw_seq ?_; refine sw_region ?_; (iterate 2 refine so_1 rfl ?_); refine so_nil ?_; refine sn_then ?_; refine sw_ret ?_; refine sn_block_ret ?_; refine sn_then_ret ?_; refine sn_loop_ret ?_; refine sn_block_ret ?_; refine sn_then_ret ?_)
      refine sn_ret rfl (.tmp rfl .nil) (Ent.refl _) ?_
      exact ⟨by rw [if_pos (by omega)]; rfl, rfl⟩
    · have hji : j < i := by
        rcases Nat.lt_or_ge j i with h | h
        · exact h
        · have : j = i := by omega
          subst this; exact absurd (hi hjn) h2
      (refine sw_skip ?_; refine sn_block ?_; refine sn_then ?_; refine sw_region ?_; refine so_1 rfl ?_; refine so_2 rfl (by (unfold I64; omega)) ?_; refine so_1 rfl ?_; refine so_nil ?_)
      exact sn_round (j + 1) ⟨rfl, rfl, rfl, trivial⟩ (Ent.refl _) hji (by omega)
  · (refine sw_exit ?_; refine sn_then_exit ?_; refine sn_loop_exit ?_; refine sn_block_exit ?_; refine sn_then ?_; refine sw_seq ?_; refine sw_region ?_; refine so_1 rfl ?_; refine so_nil ?_; refine sn_then ?_; refine sw_ret ?_)
    refine sn_ret rfl (.tmp rfl .nil) (Ent.refl _) ?_
    exact ⟨by rw [if_neg (by omega)]; rfl, rfl⟩
theorem dsF_vl {k : Nat} (hk : nth F k = some (all (dsF D))) {j : Nat} (hj : j < D.length) : ∀ w, Sat b F w → VL (Value.int .u8) w D[j].bv D[j].b := fun w H => by
  obtain ⟨h1, l, H1, a, b', cc⟩ := H.mem.get hk
  have hn : nth (dsF D) j = some (rB D[j].bv D[j].b) := by
    clear H l a b' cc hk
    induction D generalizing j with
    | nil => simp at hj
    | cons p D ih =>
      cases j with
      | zero => rfl
      | succ j => simp only [dsF, nth, List.getElem_cons_succ]; exact ih (by simpa using hj)
  exact (row_oat ((a j).trans l) (cc j _ hn)).sl
/-- Where the session x stands: at i, or nowhere (i = n). -/
structure At (D : List Ds) (n : Nat) (x : Int) (i : Nat) : Prop where
  hle : i ≤ n
  hb : ∀ j (hj : j < D.length), j < i → D[j].n ≠ x
  hi : ∀ h : i < D.length, D[i].n = x
theorem rOffset_S {x : Int} {i : Nat} (hn : D.length = n) (h8 : n ≤ 1000) (ha : At D n x i) : SC Try.prog n_p_entrepotref09_Table_Offset [.pointer (some ⟨g, 0, none⟩), .int .i64 x] b (tbR g w nx A c n D F)
    (fun v F' => (if h : i < D.length then v = .tuple ⟨[.int .i64 D[i].b.length, .int .i64 0]⟩ else v = .tuple ⟨[.int .i64 0, .int .i64 12]⟩) ∧ F' = tbR g w nx A c n D F) := by
  refine enterS F_p_entrepotref09_Table_Offset rfl rfl rfl ?_
  refine sw_fact (fun w H => (H.oat (k := 1) rfl).form) ?_
  rintro ⟨A', c', hv, q1, q2, q3⟩
  simp only [Value.slice.injEq, true_and] at hv
  obtain ⟨rfl, rfl⟩ := hv
  (refine sw_seq ?_; refine sw_region ?_; (iterate 2 refine so_1 rfl ?_); refine so_nil ?_; refine sn_then ?_; refine sw_seq ?_; refine sw_region ?_; (iterate 2 refine so_1 rfl ?_))
  refine so_callE rfl rfl rfl (place_S hn h8 ha.hle ha.hb ha.hi) ?_
  by_cases hin : i < n
  · have hi' : i < D.length := by omega
    rw [if_pos hin]
    obtain ⟨gg, oo, rfl⟩ := q3 (by omega)
    (refine so_1 rfl ?_; refine so_nil ?_; refine sn_then ?_; (iterate 2 refine sw_seq ?_); refine sw_region ?_; (iterate 2 refine so_1 rfl ?_); refine so_nil ?_; refine sn_then ?_; refine sw_cond_f rfl ?_; refine sw_skip ?_; refine sn_then ?_; refine sw_seq ?_; refine sw_region ?_; (iterate 3 refine so_1 rfl ?_); refine so_l 0 rfl rfl rfl ?_; refine so_1 rfl ?_; refine so_2 rfl (by omega) ?_; refine so_1 rfl ?_)
    refine so_fact (fun w H => (dsF_vl (k := 2) rfl hi' w H).form) ?_
    rintro ⟨A2, c2, hv2, _, _, _, _⟩
    skip
    refine so_rd rfl (fun w H => ex_load rfl rfl rfl (by rw [mulz_eq, Int.toNat_natCast]; exact (rSn_cell (k := 1) rfl hn hi' (j := 2) (by decide) w H).trans (congrArg some hv2))) rfl ?_
    ((iterate 3 refine so_1 rfl ?_); refine so_nil ?_; refine sn_then ?_; refine sw_ret ?_)
    refine sn_ret rfl (.tmp rfl (.tmp rfl .nil)) (Ent.refl _) ?_
    rw [dif_pos hi']; exact ⟨rfl, rfl⟩
  · rw [if_neg hin]
    (refine so_1 rfl ?_; refine so_nil ?_; refine sn_then ?_; (iterate 2 refine sw_seq ?_); refine sw_region ?_; (iterate 2 refine so_1 rfl ?_); refine so_nil ?_; refine sn_then ?_; refine sw_cond_t rfl ?_; refine sw_seq ?_; refine sw_region ?_; (iterate 2 refine so_1 rfl ?_); refine so_nil ?_; refine sn_then ?_; refine sw_ret ?_; refine sn_then_ret ?_)
    refine sn_ret rfl (.tmp rfl (.tmp rfl .nil)) (Ent.refl _) ?_
    rw [dif_neg (by omega)]; exact ⟨rfl, rfl⟩
end
end Go.Proofs.Ytjfileaidgknjaa
/- Uploads, part sixteen: the document's List. Conditions: none. -/
namespace Go.Proofs.Ytjfileaidgknjaa
open Go Go.Eng Go.RowKit

section
variable {b : World} {F : List SP} {g : Nat} {wd nx : Int} {A : Option Addr} {c n : Nat} {D : List Ds}
theorem rList_S (hn : D.length = n) (h8 : n ≤ 1000) (hbs : ∀ d ∈ D, d.b.length ≤ 4096) : SC Try.prog n_p_entrepotref09_Table_List [.pointer (some ⟨g, 0, none⟩)] b (tbR g wd nx A c n D F) (fun v F' => ∃ D' : List Ds, D'.map Ds.se = D.map Ds.se ∧ F' = rSs v D' :: all (dsF D') :: tbR g wd nx A c n D F) := by
  refine enterS F_p_entrepotref09_Table_List rfl rfl rfl ?_
  refine sw_fact (fun w H => (H.oat (k := 1) rfl).form) ?_
  rintro ⟨A', c', hv, q1, q2, q3⟩
  simp only [Value.slice.injEq, true_and] at hv
  obtain ⟨rfl, rfl⟩ := hv
  (refine sw_seq ?_; refine sw_region ?_; refine so_1 rfl ?_; refine so_nil ?_; refine sn_then ?_; refine sw_seq ?_; refine sw_region ?_; refine so_1 rfl ?_; refine so_nil ?_; refine sn_then ?_; (iterate 2 refine sw_seq ?_); refine sw_region ?_; refine so_1 rfl ?_; refine so_nil ?_; refine sn_then ?_; refine sw_block ?_)
  refine sw_loop (S := List Ds × Value) (fun s => [(0, .pointer (some ⟨g, 0, none⟩)), (3, s.2), (4, .int .i64 s.1.length)]) (fun s => rSs s.2 s.1 :: all (dsF s.1) :: tbR g wd nx A c n D F) (fun s => s.1.map Ds.se = (D.take s.1.length).map Ds.se ∧ s.1.length ≤ n) (fun s => n - s.1.length) ([], .slice none 0 0)
    ⟨rfl, rfl, rfl, trivial⟩ ((ent_row_nil t_api_Session 3 rfl).trans ((ent_close (G := [])).trans (ent_keep 2 [1, 0] rfl rfl))) ⟨rfl, Nat.zero_le _⟩ ?_
  rintro ⟨D', v⟩ ⟨hD, hDn⟩
  dsimp only at hD hDn ⊢
  ((iterate 2 refine sw_seq ?_); refine sw_region ?_; (iterate 4 refine so_1 rfl ?_); refine so_l 2 rfl rfl rfl ?_; (iterate 2 refine so_1 rfl ?_); refine so_nil ?_; refine sn_then ?_)
  refine sw_if rfl (fun h1 => ?_) (fun h1 => ?_)
  · have hi : D'.length < D.length := by omega
    obtain ⟨gg, oo, rfl⟩ := q3 (by omega)
    have htake : (D.take (D'.length + 1)).map Ds.se = (D.take D'.length).map Ds.se ++ [D[D'.length].se] := by rw [List.take_succ_eq_append_getElem hi, List.map_append, List.map_singleton]
    have hc : ∀ w, Sat b (rSs v D' :: all (dsF D') :: tbR g wd nx (some ⟨gg, oo, none⟩) c n D F) w → ∀ j, j < 3 → w.cell? ⟨gg, oo + D'.length * 3 + j, none⟩ = (dsC D[D'.length])[j]? := fun w H j hj => rSn_cell (k := 3) rfl hn hi hj w H
    have hvl : ∀ w, Sat b (rSs v D' :: all (dsF D') :: tbR g wd nx (some ⟨gg, oo, none⟩) c n D F) w → VL (Value.int .u8) w D[D'.length].bv D[D'.length].b := fun w H => dsF_vl (k := 4) rfl hi w H
    have hbl := hbs _ (List.getElem_mem hi)
    generalize D[D'.length] = d at *
    refine sw_fact (fun w H => (hvl w H).form) ?_
    rintro ⟨A7, c7, hv7, b1, b2, b3, b4⟩
    obtain ⟨dn, dr, dbv, db⟩ := d
    dsimp only at hv7 b1 b4 hvl hbl
    subst hv7
    (refine sw_skip ?_; refine sn_then ?_; refine sw_seq ?_; refine sw_block ?_; refine sw_seq ?_; refine sw_region ?_; (iterate 3 refine so_1 rfl ?_); refine so_l 2 rfl rfl rfl ?_; refine so_1 rfl ?_; refine so_2 rfl (by omega) ?_)
    refine so_rd rfl (fun w H => ex_loadN (cs := dsC ⟨dn, dr, .slice A7 db.length c7, db⟩) rfl rfl rfl rfl (fun q hq => by rw [mulz_eq, Int.toNat_natCast]; exact hc w H q hq)) rfl ?_
    skip
    refine so_new rfl rfl rfl rfl rfl fun g5 => ?_
    (refine so_s1 0 rfl rfl rfl rfl ?_; refine so_nil ?_; refine sn_then ?_; refine sw_seq ?_; refine sw_region ?_)
    refine so_lit [] rfl rfl rfl rfl rfl rfl rfl rfl rfl fun g0 => ?_
    refine so_ent (ent_blk_row (n := 0) (sz := 1) rfl rfl (by decide) 0 rfl rfl) ?_
    (refine so_1 rfl ?_; refine so_l 1 rfl rfl rfl ?_)
    refine so_append 0 rfl rfl rfl rfl rfl rfl rfl rfl rfl (up hvl (ent_keep 2 [] rfl rfl)) (u8s_one _) (by omega) (fun _ => rfl) fun v6 => ?_
    refine so_fact (fun w H => (H.oat (k := 0) rfl).form) ?_
    rintro ⟨A6, c6, rfl, _, _, _⟩
    (refine so_1 rfl ?_; refine so_s1 1 rfl rfl rfl rfl ?_; refine so_nil ?_; refine sn_then ?_; refine sw_region ?_; refine so_1 rfl ?_; refine so_l 1 rfl rfl rfl ?_)
    refine so_lit1 rfl rfl rfl rfl rfl rfl rfl rfl (by decide) fun gl => ?_
    obtain ⟨d', hd'⟩ : ∃ d' : Ds, d' = ⟨dn, dr, .slice A6 (0 + db.length) c6, db⟩ := ⟨_, rfl⟩
    have hcs : [.int .i64 dn, .string dr, .slice A6 (0 + db.length) c6] = dsC d' := by rw [hd']; rfl
    have hrb : row t_uint8 1 (.slice A6 (0 + db.length) c6) (0 + db.length) ([] ++ u8s db) = rB d'.bv d'.b := by rw [hd']; simp [rB]
    have hse : d'.se = (dn, dr, db) := by rw [hd']; rfl
    show SO _ _ _ _ _ _ ((29, _) :: (28, .agg ⟨[.int .i64 dn, .string dr, .slice A6 (0 + db.length) c6]⟩) :: _) _ _ (pt gl _ [.int .i64 dn, .string dr, .slice A6 (0 + db.length) c6] :: row t_uint8 1 (.slice A6 (0 + db.length) c6) (0 + db.length) ([] ++ u8s db) :: _)
    rw [hrb, hcs]
    refine so_append 3 rfl rfl rfl rfl rfl rfl rfl rfl rfl (m := 1) (news := dsC d') (fun w H => (H.blk (k := 0) rfl).sl rfl (by decide)) (by intro u hu; simp [dsC, ssC] at hu; rcases hu with rfl | rfl | rfl <;> first | rfl | (rw [hd']; rfl)) (by omega) (fun _ => rfl) fun v' => ?_
    have hrow : row t_api_Session 3 v' (D'.length + 1) (flC dsC D' ++ dsC d') = rSs v' (D' ++ [d']) := by simp [rSs, flC_app, flC]
    rw [hrow]
    (refine so_1 rfl ?_; refine so_nil ?_; refine sn_block ?_; refine sn_then ?_; refine sw_region ?_; refine so_1 rfl ?_; refine so_2 rfl (by (unfold I64; omega)) ?_; refine so_1 rfl ?_; refine so_nil ?_)
    refine sn_round (D' ++ [d'], v') ⟨rfl, rfl, ?_, trivial⟩ ?_ ⟨?_, ?_⟩ ?_
    · dsimp only; rw [List.length_append]; rfl
    · exact (ent_keep 5 [1, 4, 3] rfl rfl).trans ((ent_in (B := [rB d'.bv d'.b]) dsF_snoc).trans (ent_keep 2 [1, 0] rfl rfl))
    · dsimp only; rw [List.length_append, List.length_singleton, htake, List.map_append, hD, List.map_singleton, hse]; rfl
    · simp; omega
    · simp; omega
  · (refine sw_exit ?_; refine sn_then_exit ?_; refine sn_loop_exit ?_; refine sn_block_exit ?_; refine sn_then ?_; refine sw_seq ?_; refine sw_region ?_; (iterate 2 refine so_1 rfl ?_); refine so_nil ?_; refine sn_then ?_; refine sw_ret ?_)
    refine sn_ret rfl (.tmp rfl .nil) (Ent.refl _) ?_
    refine ⟨D', ?_, rfl⟩
    rw [hD, List.take_of_length_le (by omega)]
end
end Go.Proofs.Ytjfileaidgknjaa
/- Uploads, part seventeen: the document's take, Cancel. Conditions: none. -/
namespace Go.Proofs.Ytjfileaidgknjaa
open Go Go.Eng Go.RowKit

section
variable {b : World} {F : List SP} {g : Nat} {wd nx : Int} {A : Option Addr} {c n : Nat} {D : List Ds}
theorem dsF_erase {i : Nat} (hi : i < D.length) : (dsF D).Perm ([rB D[i].bv D[i].b] ++ dsF (D.eraseIdx i)) := by
  have h : D = D.take i ++ D[i] :: D.drop (i + 1) := by rw [← List.drop_eq_getElem_cons hi, List.take_append_drop]
  conv => lhs; rw [h]
  rw [List.eraseIdx_eq_take_drop_succ]
  exact dsF_at
theorem dsC_one {D : List Ds} (h : ∀ d ∈ D, ∃ A n c, d.bv = .slice A n c) : ∀ u ∈ flC dsC D, u.oneCell' = true := flC_one fun d hd u hu => by
  obtain ⟨A, n, c, e⟩ := h d hd
  simp [dsC, ssC] at hu
  rcases hu with rfl | rfl | rfl
  · rfl
  · rfl
  · rw [e]; rfl
theorem take_S {i : Nat} (hn : D.length = n) (h8 : n ≤ 1000) (hi : i < D.length) : SC Try.prog n_p_entrepotref09_Table_take [.pointer (some ⟨g, 0, none⟩), .int .i64 i] b (tbR g wd nx A c n D F)
    (fun v F' => v = .agg ⟨ssC D[i].n D[i].r D[i].bv⟩ ∧ ∃ A' c', F' = rB D[i].bv D[i].b :: tbR g wd nx A' c' (n - 1) (D.eraseIdx i) F) := by
  refine enterS F_p_entrepotref09_Table_take rfl rfl rfl ?_
  refine sw_fact (fun w H => (H.oat (k := 1) rfl).form) ?_
  rintro ⟨A', c', hv, q1, q2, q3⟩
  simp only [Value.slice.injEq, true_and] at hv
  obtain ⟨rfl, rfl⟩ := hv
  obtain ⟨gg, oo, rfl⟩ := q3 (by omega)
  refine sw_fact (fun w H => fun d (hd : d ∈ D) => (show ∃ A n c, d.bv = .slice A n c from by
    obtain ⟨j, hj, rfl⟩ := List.mem_iff_getElem.1 hd
    obtain ⟨A, c, h, _⟩ := (dsF_vl (k := 2) rfl hj w H).form
    exact ⟨A, _, c, h⟩)) ?_
  intro hones
  have hone := dsC_one hones
  refine sw_fact (fun w H => (dsF_vl (k := 2) rfl hi w H).form) ?_
  rintro ⟨A7, c7, hv7, b1, b2, b3, b4⟩
  have hc : ∀ {X : SP} w, Sat b (X :: tbR g wd nx (some ⟨gg, oo, none⟩) c n D F) w → ∀ j, j < 3 → w.cell? ⟨gg, oo + i * 3 + j, none⟩ = (dsC D[i])[j]? := fun w H j hj => rSn_cell (k := 2) rfl hn hi hj w H
  have hperm := dsF_erase hi
  have hdr : (flC dsC D).drop ((i + 1) * 3) = flC dsC (D.drop (i + 1)) := by
    conv => lhs; rw [← List.take_append_drop (i + 1) D, flC_app]
    rw [List.drop_left' (by rw [flC_len (dsC_len _), List.length_take]; congr 1; omega)]
  have htk : (flC dsC D).take (i * 3) = flC dsC (D.take i) := by
    conv => lhs; rw [← List.take_append_drop i D, flC_app]
    rw [List.take_left' (by rw [flC_len (dsC_len _), List.length_take]; congr 1; omega)]
  have her : flC dsC (D.take i) ++ flC dsC (D.drop (i + 1)) = flC dsC (D.eraseIdx i) := by rw [← flC_app, List.eraseIdx_eq_take_drop_succ]
  generalize D[i] = d at *
  obtain ⟨dn, dr, dbv, db⟩ := d
  dsimp only at hv7 b1 b4 hperm ⊢
  subst hv7
  (refine sw_seq ?_; refine sw_region ?_)
  refine so_new rfl rfl rfl rfl rfl fun g4 => ?_
  (refine so_nil ?_; refine sn_then ?_; refine sw_seq ?_; refine sw_region ?_; (iterate 3 refine so_1 rfl ?_); refine so_l 1 rfl rfl rfl ?_; refine so_1 rfl ?_; refine so_2 rfl (by omega) ?_)
  refine so_rd rfl (fun w H => ex_loadN (cs := dsC ⟨dn, dr, .slice A7 db.length c7, db⟩) rfl rfl rfl rfl (fun q hq => by rw [mulz_eq, Int.toNat_natCast]; exact hc w H q hq)) rfl ?_
  skip
  refine so_new rfl rfl rfl rfl rfl fun g5 => ?_
  (refine so_s1 0 rfl rfl rfl rfl ?_; refine so_nil ?_; refine sn_then ?_; refine sw_seq ?_)
  refine sw_draw2 flo 19 (pt g t_entrepotref09_Table [.int .i64 wd, .int .i64 nx, .slice (some ⟨gg, oo, none⟩) n c] :: F) [] rfl (by decide +kernel) (ent_keep 5 [2] rfl rfl) ?_
  (refine sd_1 rfl (.inl rfl) ?_)
  refine sd_lit0 rfl rfl rfl rfl rfl rfl (ent_keep 5 [2] rfl rfl) fun g0 => ?_
  refine sd_ent (ent_blk_row (n := 0) (sz := 3) rfl rfl (by decide) 0 rfl rfl) ?_
  ((iterate 3 refine sd_1 rfl (.inl rfl) ?_); refine sd_l 0 rfl rfl rfl rfl ?_; refine sd_1 rfl (.inl rfl) ?_; refine sd_2 rfl rfl (by omega) ?_)
  refine sd_know 20 (.slice (some ⟨gg, oo, none⟩) i c) rfl rfl ?_
  refine sd_append 0 rfl rfl rfl rfl rfl rfl rfl rfl rfl rfl (m := i) (news := (flC dsC D).take (i * 3)) (fun w H => ((H.oat (k := 4) rfl).take (by omega)).sl) (fun u hu => hone u (List.mem_of_mem_take hu)) (by omega) (fun _ => rfl) (fun _ => ent_keep 6 [3] rfl rfl) fun v8 => ?_
  rw [htk]
  ((iterate 3 refine sd_1 rfl (.inl rfl) ?_); refine sd_l 0 rfl rfl rfl rfl ?_; refine sd_1 rfl (.inl rfl) ?_; refine sd_2 rfl rfl (by (unfold I64; omega)) ?_; refine sd_2 rfl rfl (by omega) ?_)
  refine sd_append 0 rfl rfl rfl rfl rfl rfl rfl rfl rfl rfl (row_drop_sl (k := 4) rfl (by omega)) (fun u hu => hone u (List.mem_of_mem_drop hu)) (by omega) (fun _ => rfl) (fun _ => ent_keep 6 [3] rfl rfl) fun v9 => ?_
  refine sd_fact (fun w H => (H.oat (k := 0) rfl).form) ?_
  rintro ⟨A9, c9, rfl, _, _, _⟩
  ((iterate 2 refine sd_1 rfl (.inl rfl) ?_))
  refine sd_nil (sn_draw2 rfl (ent_nil _) ?_)
  skip
  refine sd_st 3 rfl rfl rfl rfl rfl rfl rfl rfl rfl rfl rfl (ent_nil _) ?_
  refine sd_nil ?_
  (refine sn_then ?_; refine sw_seq ?_; refine sw_region ?_; refine so_l 1 rfl rfl rfl ?_; refine so_s1 2 rfl rfl rfl rfl ?_; refine so_nil ?_; refine sn_then ?_; refine sw_ret ?_)
  have e1 : 0 + i + (n - ((i : Int) + 1).toNat) = n - 1 := by omega
  have e2 : ((i : Int) + 1).toNat * 3 = (i + 1) * 3 := by omega
  rw [e1, e2, hdr, List.nil_append, her]
  refine sn_ret rfl (.agg 2 rfl rfl rfl rfl rfl .nil) ((ent_keep 6 [5, 0, 3] rfl rfl).trans ((ent_out (A := dsF D) (B := [rB (.slice A7 db.length c7) db]) (C := dsF (D.eraseIdx i)) hperm).trans (ent_keep 4 [0, 3, 2, 1] rfl rfl))) ?_
  exact ⟨rfl, A9, c9, rfl⟩
theorem rCancel_S {x : Int} {i : Nat} (hn : D.length = n) (h8 : n ≤ 1000) (ha : At D n x i) : SC Try.prog n_p_entrepotref09_Table_Cancel [.pointer (some ⟨g, 0, none⟩), .int .i64 x] b (tbR g wd nx A c n D F)
    (fun v F' => if i < n then v = .int .i64 0 ∧ ∃ A' c', F' = tbR g wd nx A' c' (n - 1) (D.eraseIdx i) F else v = .int .i64 12 ∧ F' = tbR g wd nx A c n D F) := by
  refine enterS F_p_entrepotref09_Table_Cancel rfl rfl rfl ?_
  (refine sw_seq ?_; refine sw_region ?_; refine so_1 rfl ?_; refine so_nil ?_; refine sn_then ?_; refine sw_seq ?_; refine sw_region ?_; (iterate 2 refine so_1 rfl ?_))
  refine so_callE rfl rfl rfl (place_S hn h8 ha.hle ha.hb ha.hi) ?_
  by_cases hin : i < n
  · rw [if_pos hin]
    (refine so_1 rfl ?_; refine so_nil ?_; refine sn_then ?_; (iterate 2 refine sw_seq ?_); refine sw_region ?_; (iterate 2 refine so_1 rfl ?_); refine so_nil ?_; refine sn_then ?_; refine sw_cond_f rfl ?_; refine sw_skip ?_; refine sn_then ?_; refine sw_seq ?_; refine sw_region ?_; (iterate 2 refine so_1 rfl ?_))
    refine so_call rfl rfl rfl (take_S hn h8 (by omega)) ?_
    rintro v F' ⟨rfl, A', c', rfl⟩
    (refine so_nil ?_; refine sn_then ?_; refine sw_seq ?_; refine sw_region ?_; refine so_1 rfl ?_; refine so_nil ?_; refine sn_then ?_; refine sw_ret ?_)
    refine sn_ret rfl (.tmp rfl .nil) (ent_keep 1 [] rfl rfl) ?_
    rw [if_pos hin]; exact ⟨rfl, A', c', rfl⟩
  · rw [if_neg hin]
    (refine so_1 rfl ?_; refine so_nil ?_; refine sn_then ?_; (iterate 2 refine sw_seq ?_); refine sw_region ?_; (iterate 2 refine so_1 rfl ?_); refine so_nil ?_; refine sn_then ?_; refine sw_cond_t rfl ?_; refine sw_seq ?_; refine sw_region ?_; refine so_1 rfl ?_; refine so_nil ?_; refine sn_then ?_; refine sw_ret ?_; refine sn_then_ret ?_)
    refine sn_ret rfl (.tmp rfl .nil) (Ent.refl _) ?_
    rw [if_neg hin]; exact ⟨rfl, rfl⟩
end
end Go.Proofs.Ytjfileaidgknjaa
/- Uploads, part eighteen: the document's Start. Conditions: none. -/
namespace Go.Proofs.Ytjfileaidgknjaa
open Go Go.Eng Go.RowKit

section
variable {b : World} {F : List SP} {g : Nat} {wd nx : Int} {A : Option Addr} {c n : Nat} {D : List Ds}
theorem rStart_S {s : ByteArray} (hn : D.length = n) (h8 : n ≤ 1000) (hnx : 0 ≤ nx) : SC Try.prog n_p_entrepotref09_Table_Start [.pointer (some ⟨g, 0, none⟩), .string s] b (tbR g wd nx A c n D F)
    (fun v F' => if startE (strI s) n nx = 0 then v = .tuple ⟨[.int .i64 nx, .int .i64 0]⟩ ∧ ∃ A' c', F' = tbR g wd (nx + 1) A' c' (n + 1) (D ++ [⟨nx, s, .slice none 0 0, []⟩]) F
      else v = .tuple ⟨[.int .i64 0, .int .i64 (startE (strI s) n nx)]⟩ ∧ F' = tbR g wd nx A c n D F) := by
  refine enterS F_p_entrepotref09_Table_Start rfl rfl rfl ?_
  (refine sw_seq ?_; refine sw_region ?_; (iterate 2 refine so_1 rfl ?_); refine so_nil ?_; refine sn_then ?_; refine sw_seq ?_; refine sw_block ?_; refine sw_seq ?_; refine sw_region ?_; refine so_1 rfl ?_)
  refine so_callE rfl rfl rfl (rRepo_S) ?_
  (refine so_1 rfl ?_)
  refine so_pu rfl (pu_neA rfl rfl (eq_fault (repoF (strI s)).1 (repoF (strI s)).2 0 0)) rfl ?_
  by_cases hr : repoF (strI s) = (0, 0)
  · rw [hr]
    refine so_fact (fun w H => (H.oat (k := 1) rfl).form) ?_
    rintro ⟨A', c', hv, q1, q2, q3⟩
    simp only [Value.slice.injEq, true_and] at hv
    obtain ⟨rfl, rfl⟩ := hv
    (refine so_1 rfl ?_; refine so_nil ?_; refine sn_then ?_; refine sw_cond_f rfl ?_; refine sw_seq ?_; refine sw_region ?_; (iterate 3 refine so_1 rfl ?_); refine so_l 0 rfl rfl rfl ?_; (iterate 3 refine so_1 rfl ?_); refine so_nil ?_; refine sn_then ?_)
    have hr' : ¬ repoF (strI s) ≠ (0, 0) := by simp [hr]
    refine sw_if rfl (fun h1 => ?_) (fun h1 => ?_)
    · have e : startE (strI s) n nx = 10 := by rw [startE, if_neg hr', if_pos (by omega)]
      (refine sw_seq ?_; refine sw_region ?_; (iterate 2 refine so_1 rfl ?_); refine so_nil ?_; refine sn_then ?_; refine sw_ret ?_; refine sn_block_ret ?_; refine sn_then_ret ?_)
      refine sn_ret rfl (.tmp rfl (.tmp rfl .nil)) (Ent.refl _) ?_
      rw [e, if_neg (by decide)]; exact ⟨rfl, rfl⟩
    (refine sw_seq ?_; refine sw_region ?_; (iterate 3 refine so_1 rfl ?_); refine so_l 0 rfl rfl rfl ?_; (iterate 2 refine so_1 rfl ?_); refine so_nil ?_; refine sn_then ?_)
    refine sw_if rfl (fun h2 => ?_) (fun h2 => ?_)
    · have e : startE (strI s) n nx = 21 := by rw [startE, if_neg hr', if_neg (by omega), if_pos h2]
      (refine sw_seq ?_; refine sw_region ?_; (iterate 2 refine so_1 rfl ?_); refine so_nil ?_; refine sn_then ?_; refine sw_ret ?_; refine sn_block_ret ?_; refine sn_then_ret ?_)
      refine sn_ret rfl (.tmp rfl (.tmp rfl .nil)) (Ent.refl _) ?_
      rw [e, if_neg (by decide)]; exact ⟨rfl, rfl⟩
    have e : startE (strI s) n nx = 0 := by rw [startE, if_neg hr', if_neg (by omega), if_neg h2]
    (refine sw_skip ?_; refine sn_block ?_; refine sn_then ?_; refine sw_seq ?_)
    refine sw_draw2 flo 15 (pt g t_entrepotref09_Table [.int .i64 wd, .int .i64 nx, .slice A n c] :: F) [] rfl (by decide +kernel) (ent_keep 3 [0] rfl rfl) ?_
    ((iterate 4 refine sd_1 rfl (.inl rfl) ?_); refine sd_l 0 rfl rfl rfl rfl ?_; (iterate 3 refine sd_1 rfl (.inl rfl) ?_); refine sd_l 0 rfl rfl rfl rfl ?_; (iterate 2 refine sd_1 rfl (.inl rfl) ?_))
    refine sd_lit1 rfl rfl rfl rfl rfl rfl rfl rfl rfl (by decide) (ent_keep 3 [0] rfl rfl) fun gl => ?_
    refine sd_append 2 rfl rfl rfl rfl rfl rfl rfl rfl rfl rfl (m := 1) (news := ssC nx s (.slice none 0 0)) (fun w H => (H.blk (k := 0) rfl).sl rfl (by decide)) (by simp [ssC, Value.oneCell']) (by omega) (fun _ => rfl) (fun _ => ent_keep 4 [1] rfl rfl) fun v8 => ?_
    refine sd_fact (fun w H => (H.oat (k := 2) rfl).form) ?_
    rintro ⟨A8, c8, rfl, _, _, _⟩
    ((iterate 2 refine sd_1 rfl (.inl rfl) ?_))
    refine sd_nil (sn_draw2 rfl (ent_nil _) ?_)
    refine sd_st 1 rfl rfl rfl rfl rfl rfl rfl rfl rfl rfl rfl (ent_nil _) ?_
    refine sd_nil ?_
    (refine sn_then ?_; refine sw_seq ?_; refine sw_region ?_; (iterate 3 refine so_1 rfl ?_); refine so_l 1 rfl rfl rfl ?_; refine so_2 rfl (by (unfold I64; omega)) ?_; (iterate 2 refine so_1 rfl ?_); refine so_s1 1 rfl rfl rfl rfl ?_; refine so_nil ?_; refine sn_then ?_; refine sw_seq ?_; refine sw_region ?_; (iterate 3 refine so_1 rfl ?_); refine so_l 1 rfl rfl rfl ?_; refine so_2 rfl (by (unfold I64; omega)) ?_; (iterate 2 refine so_1 rfl ?_); refine so_nil ?_; refine sn_then ?_; refine sw_ret ?_)
    have hrow : row t_api_Session 3 (.slice A8 (n + 1) c8) (n + 1) (flC dsC D ++ ssC nx s (.slice none 0 0)) = rSn A8 c8 (n + 1) (D ++ [⟨nx, s, .slice none 0 0, []⟩]) := by simp [rSn, flC_app, flC, dsC]
    rw [hrow]
    refine sn_ret rfl (.tmp rfl (.tmp rfl .nil)) ((ent_keep 4 [1, 2, 3] rfl rfl).trans ((ent_row_nil t_uint8 1 rfl).trans ((ent_keep 4 [0, 3, 1, 2] rfl rfl).trans ((ent_in (A := dsF (D ++ [⟨nx, s, .slice none 0 0, []⟩])) (B := [rB (.slice none 0 0) []]) (C := dsF D) dsF_snoc).trans (ent_keep 3 [1, 2, 0] rfl rfl))))) ?_
    rw [e, if_pos rfl]
    refine ⟨?_, A8, c8, rfl⟩
    rw [show nx + 1 - 1 = nx by omega]; rfl
  · have e : startE (strI s) n nx = 7 := by rw [startE, if_pos hr]
    refine so_know 10 (.bool true) rfl ?_ ?_
    · refine congrArg Value.bool ?_
      have : ¬ ((repoF (strI s)).1 = 0 ∧ (repoF (strI s)).2 = 0) := fun h => hr (Prod.ext h.1 h.2)
      simp [this]
    (refine so_1 rfl ?_; refine so_nil ?_; refine sn_then ?_; refine sw_cond_t rfl ?_; refine sw_seq ?_; refine sw_region ?_; (iterate 2 refine so_1 rfl ?_); refine so_nil ?_; refine sn_then ?_; refine sw_ret ?_; refine sn_block_ret ?_; refine sn_then_ret ?_)
    refine sn_ret rfl (.tmp rfl (.tmp rfl .nil)) (Ent.refl _) ?_
    rw [e, if_neg (by decide)]; exact ⟨rfl, rfl⟩
end
end Go.Proofs.Ytjfileaidgknjaa
/- Uploads, part nineteen: the document's Finish. Conditions: none. -/
namespace Go.Proofs.Ytjfileaidgknjaa
open Go Go.Eng Go.RowKit

section
variable {b : World} {F : List SP} {g : Nat} {wd nx : Int} {A : Option Addr} {c n : Nat} {D : List Ds}
set_option maxHeartbeats 4000000 in
theorem rFinish_yes {x : Int} {i : Nat} {id : List Int} (hid : id.length = 32) (hn : D.length = n) (h8 : n ≤ 1000) (ha : At D n x i) (hi' : i < D.length) (hbl : D[i].b.length ≤ 4096) : SC Try.prog n_p_entrepotref09_Table_Finish [.pointer (some ⟨g, 0, none⟩), .int .i64 x, idV id] b (tbR g wd nx A c n D F)
    (fun v F' => if cutR (sumM D[i].b) wd = id then v = .tuple ⟨[.agg ⟨ssC D[i].n D[i].r D[i].bv⟩, .int .i64 0]⟩ ∧ ∃ A' c', F' = rB D[i].bv D[i].b :: tbR g wd nx A' c' (n - 1) (D.eraseIdx i) F
        else v = .tuple ⟨[ss0, .int .i64 8]⟩ ∧ F' = tbR g wd nx A c n D F) := by
  have hin : i < n := by omega
  refine enterS F_p_entrepotref09_Table_Finish rfl rfl rfl ?_
  refine sw_fact (fun w H => (H.oat (k := 1) rfl).form) ?_
  rintro ⟨A', c', hv, q1, q2, q3⟩
  simp only [Value.slice.injEq, true_and] at hv
  obtain ⟨rfl, rfl⟩ := hv
  (refine sw_seq ?_; refine sw_region ?_)
  refine so_box rfl rfl rfl rfl rfl fun g5 => ?_
  skip
  refine so_new rfl rfl rfl rfl rfl fun g6 => ?_
  (refine so_1 rfl ?_; refine so_nil ?_; refine sn_then ?_; refine sw_seq ?_; refine sw_region ?_; (iterate 2 refine so_1 rfl ?_))
  refine so_call rfl rfl rfl ((place_S hn h8 ha.hle ha.hb ha.hi).ent (ent_keep 5 [2, 3, 4, 0, 1] rfl rfl)) ?_
  rintro v F' ⟨rfl, rfl⟩
  have hcl := cutR_len (sumM D[i].b) wd (sumM_len D[i].b)
  have hOf : ∀ {b : World} {F : List SP} {vb : Value}, (∀ w, Sat b F w → VL (Value.int .u8) w vb D[i].b) → SC Try.prog n_entrepotref02_Of [vb, .int .i64 wd] b F (fun v F' => v = .tuple ⟨[idV (cutR (sumM D[i].b) wd), .int .i64 (cutE wd)]⟩ ∧ F' = F) := fun h => by rw [← sum_RM]; exact refOf_S (by omega) h
  have htake : ∀ {b : World} {F : List SP} {A : Option Addr} {c : Nat}, SC Try.prog n_p_entrepotref09_Table_take [.pointer (some ⟨g, 0, none⟩), .int .i64 i] b (tbR g wd nx A c n D F)
    (fun v F' => v = .agg ⟨ssC D[i].n D[i].r D[i].bv⟩ ∧ ∃ A' c', F' = rB D[i].bv D[i].b :: tbR g wd nx A' c' (n - 1) (D.eraseIdx i) F) := take_S hn h8 hi'
  rw [if_pos hin]
  obtain ⟨gg, oo, rfl⟩ := q3 (by omega)
  refine so_fact (fun w H => (dsF_vl (k := 2) rfl hi' w H).form) ?_
  rintro ⟨A7, c7, hv7, b1, b2, b3, b4⟩
  have hc : ∀ {G : List SP} w, Sat b (tbR g wd nx (some ⟨gg, oo, none⟩) c n D G) w → w.cell? ⟨gg, oo + i * 3 + 2, none⟩ = some (.slice A7 D[i].b.length c7) := fun w H => (rSn_cell (k := 1) rfl hn hi' (j := 2) (by decide) w H).trans (congrArg some hv7)
  have hvl : ∀ {G : List SP} w, Sat b (tbR g wd nx (some ⟨gg, oo, none⟩) c n D G) w → VL (Value.int .u8) w (.slice A7 D[i].b.length c7) D[i].b := fun w H => hv7 ▸ dsF_vl (k := 2) rfl hi' w H
  generalize cutR (sumM D[i].b) wd = own at *
  generalize cutE wd = ce at *
  generalize D[i] = d at *
  obtain ⟨dn, dr, dbv, db⟩ := d
  dsimp only at *
  subst hv7
  (refine so_1 rfl ?_; refine so_nil ?_; refine sn_then ?_; (iterate 2 refine sw_seq ?_); refine sw_region ?_; (iterate 2 refine so_1 rfl ?_); refine so_nil ?_; refine sn_then ?_; refine sw_cond_f rfl ?_; refine sw_skip ?_; refine sn_then ?_; refine sw_seq ?_)
  refine sw_freeC 17 [15] (fl := flo) [] [(0, .pointer (some ⟨g, 0, none⟩)), (5, .pointer (some ⟨g5, 0, none⟩)), (6, .pointer (some ⟨g6, 0, none⟩)), (8, .int .i64 i)] ⟨rfl, rfl, rfl, rfl, trivial⟩ rfl (by kernel_rfl) (by kernel_rfl) (by decide) ?_
  ((iterate 3 refine fc_p (fun _ => rfl) ?_); refine fc_ld 0 rfl rfl rfl rfl (fun _ => rfl) rfl rfl ?_; refine fc_p (fun _ => rfl) ?_; refine fc_c (fun _ => rfl) (by omega) ?_; refine fc_p (fun _ => rfl) ?_)
  refine fc_ex rfl (v := .slice A7 db.length c7) (fun _ w H => ex_load rfl rfl rfl (by rw [mulz_eq, Int.toNat_natCast]; exact hc w H)) ?_
  refine fc_p (fun _ => rfl) ?_
  refine fc_p (fun _ => rfl) ?_
  refine fc_p (fun _ => rfl) ?_
  refine fc_ld 0 rfl rfl rfl rfl (fun _ => rfl) rfl rfl ?_
  refine fc_nf (by simp only [List.nil_append, List.cons_append]; exact rfl) ?_
  refine fc_call rfl (fun _ => rfl) (fun w H => SC.pure (hOf fun w' H' => (hvl w H).ext (H'.is (k := 0) rfl))) ?_
  refine fc_nf (by simp only [List.nil_append, List.cons_append]; exact rfl) ?_
  refine fc_p (fun _ => rfl) ?_
  refine fc_p (fun _ => rfl) ?_
  refine fc_p (fun _ => rfl) ?_
  refine fc_new rfl rfl rfl rfl ?_
  refine fc_nf (by simp only [List.nil_append, List.cons_append]; exact rfl) ?_
  refine .done rfl fun g9 => ⟨ent_nil _, ?_⟩
  skip
  refine sd_stW 0 rfl rfl rfl rfl rfl rfl rfl rfl (by rw [u8s_len, hcl]; rfl) (u8s_one _) (by simp [hcl]) (ent_nil _) ?_
  (refine sd_1 rfl (.inl rfl) ?_)
  refine sd_nil ?_
  (refine sn_then ?_; (iterate 2 refine sw_seq ?_); refine sw_region ?_)
  refine so_ldA 0 rfl rfl rfl rfl rfl rfl (segID hcl) rfl ?_
  refine so_ldA 5 rfl rfl rfl rfl rfl rfl (segID hid) rfl ?_
  refine so_pu rfl (pu_neI (as00 := own) (bs := id) rfl rfl hcl hid) rfl ?_
  by_cases h : own = id
  · refine so_know 35 (.bool false) rfl (by simp [h]) ?_
    (refine so_nil ?_; refine sn_then ?_; refine sw_cond_f rfl ?_; refine sw_skip ?_; refine sn_then ?_; refine sw_seq ?_; refine sw_region ?_; (iterate 2 refine so_1 rfl ?_))
    refine so_call rfl rfl rfl (htake.ent (ent_keep 6 [1, 2, 3, 0, 4, 5] rfl rfl)) ?_
    rintro v F' ⟨rfl, A9, c9, rfl⟩
    (refine so_s1 5 rfl rfl rfl rfl ?_; refine so_1 rfl ?_; refine so_nil ?_; refine sn_then ?_; refine sw_ret ?_)
    refine sn_ret rfl (.agg 5 rfl rfl rfl rfl rfl (.tmp rfl .nil)) (ent_keep 7 [0, 1, 2, 3] rfl rfl) ?_
    rw [if_pos h]
    exact ⟨rfl, A9, c9, rfl⟩
  · refine so_know 35 (.bool true) rfl (by simp [h]) ?_
    (refine so_nil ?_; refine sn_then ?_; refine sw_cond_t rfl ?_; refine sw_seq ?_; refine sw_region ?_; refine so_1 rfl ?_; refine so_s1 4 rfl rfl rfl rfl ?_; refine so_1 rfl ?_; refine so_nil ?_; refine sn_then ?_; refine sw_ret ?_; refine sn_then_ret ?_)
    refine sn_ret rfl (.agg 4 rfl rfl rfl rfl rfl (.tmp rfl .nil)) (ent_keep 6 [1, 2, 3] rfl rfl) ?_
    rw [if_neg h]
    exact ⟨rfl, rfl⟩
theorem rFinish_no {x : Int} {i : Nat} {id : List Int} (hid : id.length = 32) (hn : D.length = n) (h8 : n ≤ 1000) (ha : At D n x i) (hi' : ¬ i < D.length) : SC Try.prog n_p_entrepotref09_Table_Finish [.pointer (some ⟨g, 0, none⟩), .int .i64 x, idV id] b (tbR g wd nx A c n D F)
    (fun v F' => v = .tuple ⟨[ss0, .int .i64 12]⟩ ∧ F' = tbR g wd nx A c n D F) := by
  have hin : ¬ i < n := by omega
  refine enterS F_p_entrepotref09_Table_Finish rfl rfl rfl ?_
  (refine sw_seq ?_; refine sw_region ?_)
  refine so_box rfl rfl rfl rfl rfl fun g5 => ?_
  skip
  refine so_new rfl rfl rfl rfl rfl fun g6 => ?_
  (refine so_1 rfl ?_; refine so_nil ?_; refine sn_then ?_; refine sw_seq ?_; refine sw_region ?_; (iterate 2 refine so_1 rfl ?_))
  refine so_call rfl rfl rfl ((place_S hn h8 ha.hle ha.hb ha.hi).ent (ent_keep 5 [2, 3, 4, 0, 1] rfl rfl)) ?_
  rintro v F' ⟨rfl, rfl⟩
  rw [if_neg hin]
  (refine so_1 rfl ?_; refine so_nil ?_; refine sn_then ?_; (iterate 2 refine sw_seq ?_); refine sw_region ?_; (iterate 2 refine so_1 rfl ?_); refine so_nil ?_; refine sn_then ?_; refine sw_cond_t rfl ?_; refine sw_seq ?_; refine sw_region ?_; refine so_1 rfl ?_; refine so_s1 3 rfl rfl rfl rfl ?_; refine so_1 rfl ?_; refine so_nil ?_; refine sn_then ?_; refine sw_ret ?_; refine sn_then_ret ?_)
  refine sn_ret rfl (.agg 3 rfl rfl rfl rfl rfl (.tmp rfl .nil)) (ent_keep 5 [0, 1, 2] rfl rfl) ?_
  exact ⟨rfl, rfl⟩
end
end Go.Proofs.Ytjfileaidgknjaa
/- Uploads, part twenty: the document's Write. Conditions: none. -/
namespace Go.Proofs.Ytjfileaidgknjaa
open Go Go.Eng Go.RowKit

theorem spl_app (A B vs : List Value) (k : Nat) : spl (A ++ B) (A.length + k) vs = A ++ spl B k vs := by
  simp only [spl, Nat.add_assoc, List.take_length_add_append, List.drop_length_add_append, List.append_assoc]
theorem dsF_spl {D : List Ds} {i : Nat} (hi : i < D.length) {v : Value} {bs : List Int} : spl (flC dsC D) (i * 3 + 2) [v] = flC dsC (D.set i ⟨D[i].n, D[i].r, v, bs⟩) := by
  have h : D = D.take i ++ D[i] :: D.drop (i + 1) := by rw [← List.drop_eq_getElem_cons hi, List.take_append_drop]
  have hl : (flC dsC (D.take i)).length = i * 3 := by rw [flC_len (dsC_len _), List.length_take]; congr 1; omega
  rw [List.set_eq_take_append_cons_drop, if_pos hi]
  conv => lhs; rw [h]
  rw [flC_app, flC_app, ← hl, spl_app]
  rfl
section
variable {b : World} {F : List SP} {g : Nat} {wd nx : Int} {A : Option Addr} {c n : Nat} {D : List Ds}
theorem rWrite_no {x off : Int} {vb : Value} {i : Nat} (hn : D.length = n) (h8 : n ≤ 1000) (ha : At D n x i) (hi' : ¬ i < D.length) : SC Try.prog n_p_entrepotref09_Table_Write [.pointer (some ⟨g, 0, none⟩), .int .i64 x, .int .i64 off, vb] b (tbR g wd nx A c n D F)
    (fun v F' => v = .tuple ⟨[.int .i64 0, .int .i64 12]⟩ ∧ F' = tbR g wd nx A c n D F) := by
  have hin : ¬ i < n := by omega
  refine enterS F_p_entrepotref09_Table_Write rfl rfl rfl ?_
  (refine sw_seq ?_; refine sw_region ?_; (iterate 2 refine so_1 rfl ?_); refine so_nil ?_; refine sn_then ?_; refine sw_seq ?_; refine sw_region ?_; (iterate 2 refine so_1 rfl ?_))
  refine so_callE rfl rfl rfl (place_S hn h8 ha.hle ha.hb ha.hi) ?_
  rw [if_neg hin]
  (refine so_1 rfl ?_; refine so_nil ?_; refine sn_then ?_; (iterate 2 refine sw_seq ?_); refine sw_region ?_; (iterate 2 refine so_1 rfl ?_); refine so_nil ?_; refine sn_then ?_; refine sw_cond_t rfl ?_; refine sw_seq ?_; refine sw_region ?_; (iterate 2 refine so_1 rfl ?_); refine so_nil ?_; refine sn_then ?_; refine sw_ret ?_; refine sn_then_ret ?_)
  refine sn_ret rfl (.tmp rfl (.tmp rfl .nil)) (Ent.refl _) ?_
  exact ⟨rfl, rfl⟩
set_option maxHeartbeats 2000000 in
theorem rWrite_yes {x off : Int} {vb : Value} {xs : List Int} {i : Nat} (hb : ∀ w, Sat b F w → VL (Value.int .u8) w vb xs) (hxl : xs.length ≤ 1000000) (hn : D.length = n) (h8 : n ≤ 1000) (ha : At D n x i) (hi' : i < D.length) (hbl : D[i].b.length ≤ 4096) : SC Try.prog n_p_entrepotref09_Table_Write [.pointer (some ⟨g, 0, none⟩), .int .i64 x, .int .i64 off, vb] b (tbR g wd nx A c n D F)
    (fun v F' => if off ≠ D[i].b.length then v = .tuple ⟨[.int .i64 D[i].b.length, .int .i64 13]⟩ ∧ F' = tbR g wd nx A c n D F
      else if (4096 : Int) < D[i].b.length + xs.length then v = .tuple ⟨[.int .i64 D[i].b.length, .int .i64 4]⟩ ∧ F' = tbR g wd nx A c n D F
      else v = .tuple ⟨[.int .i64 (D[i].b.length + xs.length), .int .i64 0]⟩ ∧ ∃ bv', F' = tbR g wd nx A c n (D.set i ⟨D[i].n, D[i].r, bv', D[i].b ++ xs⟩) F) := by
  have hin : i < n := by omega
  refine enterS F_p_entrepotref09_Table_Write rfl rfl rfl ?_
  refine sw_fact (fun w H => (hb w (H.ent (ent_keep 3 [] rfl rfl))).form) ?_
  rintro ⟨bA, bc, rfl, bb1, bb2, bb3, bb4⟩
  refine sw_fact (fun w H => (H.oat (k := 1) rfl).form) ?_
  rintro ⟨A', c', hv, q1, q2, q3⟩
  simp only [Value.slice.injEq, true_and] at hv
  obtain ⟨rfl, rfl⟩ := hv
  obtain ⟨gg, oo, rfl⟩ := q3 (by omega)
  (refine sw_seq ?_; refine sw_region ?_; (iterate 2 refine so_1 rfl ?_); refine so_nil ?_; refine sn_then ?_; refine sw_seq ?_; refine sw_region ?_; (iterate 2 refine so_1 rfl ?_))
  refine so_callE rfl rfl rfl (place_S hn h8 ha.hle ha.hb ha.hi) ?_
  rw [if_pos hin]
  refine so_fact (fun w H => (dsF_vl (k := 2) rfl hi' w H).form) ?_
  rintro ⟨A7, c7, hv7, b1, b2, b3, b4⟩
  have hc : ∀ {G : List SP} w, Sat b (tbR g wd nx (some ⟨gg, oo, none⟩) c n D G) w → w.cell? ⟨gg, oo + i * 3 + 2, none⟩ = some (.slice A7 D[i].b.length c7) := fun w H => (rSn_cell (k := 1) rfl hn hi' (j := 2) (by decide) w H).trans (congrArg some hv7)
  have hvl : ∀ {G : List SP} w, Sat b (tbR g wd nx (some ⟨gg, oo, none⟩) c n D G) w → VL (Value.int .u8) w (.slice A7 D[i].b.length c7) D[i].b := fun w H => hv7 ▸ dsF_vl (k := 2) rfl hi' w H
  have hspl : ∀ v, spl (flC dsC D) (i * 3 + 2) [v] = flC dsC (D.set i ⟨D[i].n, D[i].r, v, D[i].b ++ xs⟩) := fun v => dsF_spl hi'
  have hper : ∀ v, (dsF (D.set i ⟨D[i].n, D[i].r, v, D[i].b ++ xs⟩)).Perm ([rB v (D[i].b ++ xs)] ++ dsF (D.eraseIdx i)) := fun v => by
    rw [List.set_eq_take_append_cons_drop, if_pos hi', List.eraseIdx_eq_take_drop_succ]
    exact dsF_at
  have hper0 := dsF_erase hi'
  have hlen := flC_len (dsC_len D)
  have hcs : ∀ w, Sat b (tbR g wd nx (some ⟨gg, oo, none⟩) c n D F) w → True := fun _ _ => trivial
  generalize D[i] = d at *
  obtain ⟨dn, dr, dbv, db⟩ := d
  dsimp only at *
  subst hv7
  (refine so_1 rfl ?_; refine so_nil ?_; refine sn_then ?_; (iterate 2 refine sw_seq ?_); refine sw_region ?_; (iterate 2 refine so_1 rfl ?_); refine so_nil ?_; refine sn_then ?_; refine sw_cond_f rfl ?_; refine sw_skip ?_; refine sn_then ?_; refine sw_seq ?_; refine sw_region ?_; (iterate 3 refine so_1 rfl ?_); refine so_l 0 rfl rfl rfl ?_; refine so_1 rfl ?_; refine so_2 rfl (by omega) ?_; refine so_1 rfl ?_; refine so_nil ?_; refine sn_then ?_; refine sw_seq ?_; refine sw_block ?_; refine sw_seq ?_; refine sw_region ?_; (iterate 4 refine so_1 rfl ?_))
  refine so_rd rfl (fun w H => ex_load rfl rfl rfl (by rw [mulz_eq, Int.toNat_natCast]; exact hc w H)) rfl ?_
  ((iterate 3 refine so_1 rfl ?_); refine so_nil ?_; refine sn_then ?_)
  refine sw_ifn rfl (fun h => ?_) (fun h => ?_)
  · (refine sw_seq ?_; refine sw_region ?_; (iterate 3 refine so_1 rfl ?_))
    refine so_rd rfl (fun w H => ex_load rfl rfl rfl (by rw [mulz_eq, Int.toNat_natCast]; exact hc w H)) rfl ?_
    ((iterate 3 refine so_1 rfl ?_); refine so_nil ?_; refine sn_then ?_; refine sw_ret ?_; refine sn_block_ret ?_; refine sn_then_ret ?_)
    refine sn_ret rfl (.tmp rfl (.tmp rfl .nil)) (Ent.refl _) ?_
    rw [if_pos h]; exact ⟨rfl, rfl⟩
  have h' : ¬ off ≠ (db.length : Int) := by simpa using h
  (refine sw_seq ?_; refine sw_region ?_; (iterate 3 refine so_1 rfl ?_))
  refine so_rd rfl (fun w H => ex_load rfl rfl rfl (by rw [mulz_eq, Int.toNat_natCast]; exact hc w H)) rfl ?_
  ((iterate 3 refine so_1 rfl ?_); refine so_2 rfl (by (unfold I64; omega)) ?_; (iterate 2 refine so_1 rfl ?_); refine so_nil ?_; refine sn_then ?_)
  refine sw_if rfl (fun h4 => ?_) (fun h4 => ?_)
  · (refine sw_seq ?_; refine sw_region ?_; (iterate 3 refine so_1 rfl ?_))
    refine so_rd rfl (fun w H => ex_load rfl rfl rfl (by rw [mulz_eq, Int.toNat_natCast]; exact hc w H)) rfl ?_
    ((iterate 3 refine so_1 rfl ?_); refine so_nil ?_; refine sn_then ?_; refine sw_ret ?_; refine sn_block_ret ?_; refine sn_then_ret ?_)
    refine sn_ret rfl (.tmp rfl (.tmp rfl .nil)) (Ent.refl _) ?_
    rw [if_neg h', if_pos h4]; exact ⟨rfl, rfl⟩
  (refine sw_skip ?_; refine sn_block ?_; refine sn_then ?_; refine sw_seq ?_; refine sw_region ?_; refine so_1 rfl ?_)
  refine so_lit [] rfl rfl rfl rfl rfl rfl rfl rfl rfl fun g0 => ?_
  refine so_ent (ent_blk_row (n := 0) (sz := 1) rfl rfl (by decide) 0 rfl rfl) ?_
  ((iterate 3 refine so_1 rfl ?_))
  refine so_rd rfl (fun w H => ex_load rfl rfl rfl (by rw [mulz_eq, Int.toNat_natCast]; exact hc w (H.ent (ent_keep 4 [1, 2, 3] rfl rfl)))) rfl ?_
  skip
  refine so_append 0 rfl rfl rfl rfl rfl rfl rfl rfl rfl (up hvl (ent_keep 4 [1, 2, 3] rfl rfl)) (u8s_one _) (by omega) (fun _ => rfl) fun v6 => ?_
  refine so_fact (fun w H => (H.oat (k := 0) rfl).form) ?_
  rintro ⟨A6, c6, rfl, _, _, _⟩
  (refine so_1 rfl ?_)
  refine so_append 0 rfl rfl rfl rfl rfl rfl rfl rfl rfl (up hb (ent_keep 4 [] rfl rfl)) (u8s_one _) (by omega) (fun _ => rfl) fun v8 => ?_
  refine so_fact (fun w H => (H.oat (k := 0) rfl).form) ?_
  rintro ⟨A8, c8, rfl, _, _, _⟩
  ((iterate 2 refine so_1 rfl ?_))
  refine so_strow 2 (i * 3 + 2) rfl rfl rfl rfl rfl rfl rfl rfl (hspl _) rfl (by rw [mulz_eq, Int.toNat_natCast, Nat.add_assoc]) (by rw [hlen]; simp only [List.length_cons, List.length_nil]; omega) (by intro u hu; simp at hu; subst hu; rfl) ?_
  have hlen' : (D.set i ⟨dn, dr, .slice A8 (0 + db.length + xs.length) c8, db ++ xs⟩).length = n := by rw [List.length_set]; exact hn
  have hc' : ∀ {X : SP} w, Sat b (X :: pt g t_entrepotref09_Table [.int .i64 wd, .int .i64 nx, .slice (some ⟨gg, oo, none⟩) n c] :: row t_api_Session 3 (.slice (some ⟨gg, oo, none⟩) n c) n (flC dsC (D.set i ⟨dn, dr, .slice A8 (0 + db.length + xs.length) c8, db ++ xs⟩)) :: all (dsF D) :: F) w → w.cell? ⟨gg, oo + i * 3 + 2, none⟩ = some (.slice A8 (0 + db.length + xs.length) c8) := fun w H => by
    have := rSn_cell (k := 2) rfl hlen' (i := i) (by omega) (j := 2) (by decide) w H
    rw [this, List.getElem_set_self]; rfl
  (refine so_nil ?_; refine sn_then ?_; refine sw_seq ?_; refine sw_region ?_; (iterate 3 refine so_1 rfl ?_))
  refine so_rd rfl (fun w H => ex_load rfl rfl rfl (by rw [mulz_eq, Int.toNat_natCast]; exact hc' w H)) rfl ?_
  ((iterate 3 refine so_1 rfl ?_); refine so_nil ?_; refine sn_then ?_; refine sw_ret ?_)
  have hrb : row 5 1 (.slice A8 (0 + db.length + xs.length) c8) (0 + db.length + xs.length) ([] ++ List.map (Value.int .u8) db ++ List.map (Value.int .u8) xs) = rB (.slice A8 (0 + db.length + xs.length) c8) (db ++ xs) := by simp [rB]
  rw [hrb]
  refine sn_ret rfl (.tmp rfl (.tmp rfl .nil)) ((ent_keep 4 [3, 0, 1, 2] rfl rfl).trans ((ent_out (A := dsF D) (B := [rB (.slice A7 db.length c7) db]) (C := dsF (D.eraseIdx i)) hper0).trans ((ent_keep 5 [2, 1, 3, 4] rfl rfl).trans ((ent_in (B := [rB (.slice A8 (0 + db.length + xs.length) c8) (db ++ xs)]) (hper _)).trans (ent_keep 3 [1, 2, 0] rfl rfl))))) ?_
  rw [if_neg h', if_neg h4]
  exact ⟨by simp; rfl, _, rfl⟩
end
end Go.Proofs.Ytjfileaidgknjaa
/- Uploads, part twenty-one: the document's Load, New. Conditions: none. -/
namespace Go.Proofs.Ytjfileaidgknjaa
open Go Go.Eng Go.RowKit

section
variable {b : World} {F : List SP} {w nx : Int} {va : Value} {l : List Ds}
theorem rLoad_range (h : ¬ rangeOk w nx) : SC Try.prog n_entrepotref09_Load [.int .i64 w, .int .i64 nx, va] b F (fun v F' => v = .tuple ⟨[.pointer none, .int .i64 3]⟩ ∧ F' = F) := by
  refine enterS F_entrepotref09_Load rfl rfl rfl ?_
  (refine sw_seq ?_; refine sw_region ?_; (iterate 2 refine so_1 rfl ?_); refine so_nil ?_; refine sn_then ?_; (iterate 2 refine sw_seq ?_); refine sw_region ?_; (iterate 3 refine so_1 rfl ?_))
  refine so_if 15 rfl (fun h1 => ?_) (fun h1 => ?_)
  · ((iterate 11 refine so_1 rfl ?_); refine so_nil ?_; refine sn_then ?_; refine sw_cond_t rfl ?_; refine sw_seq ?_; refine sw_region ?_; (iterate 2 refine so_1 rfl ?_); refine so_nil ?_; refine sn_then ?_; refine sw_ret ?_; refine sn_then_ret ?_)
    refine sn_ret rfl (.tmp rfl (.tmp rfl .nil)) (Ent.refl _) ?_
    exact ⟨rfl, rfl⟩
  ((iterate 4 refine so_1 rfl ?_))
  refine so_if 19 rfl (fun h2 => ?_) (fun h2 => ?_)
  · ((iterate 7 refine so_1 rfl ?_); refine so_nil ?_; refine sn_then ?_; refine sw_cond_t rfl ?_; refine sw_seq ?_; refine sw_region ?_; (iterate 2 refine so_1 rfl ?_); refine so_nil ?_; refine sn_then ?_; refine sw_ret ?_; refine sn_then_ret ?_)
    refine sn_ret rfl (.tmp rfl (.tmp rfl .nil)) (Ent.refl _) ?_
    exact ⟨rfl, rfl⟩
  ((iterate 4 refine so_1 rfl ?_))
  refine so_if 23 rfl (fun h3 => ?_) (fun h3 => ?_)
  · ((iterate 3 refine so_1 rfl ?_); refine so_nil ?_; refine sn_then ?_; refine sw_cond_t rfl ?_; refine sw_seq ?_; refine sw_region ?_; (iterate 2 refine so_1 rfl ?_); refine so_nil ?_; refine sn_then ?_; refine sw_ret ?_; refine sn_then_ret ?_)
    refine sn_ret rfl (.tmp rfl (.tmp rfl .nil)) (Ent.refl _) ?_
    exact ⟨rfl, rfl⟩
  ((iterate 3 refine so_1 rfl ?_); refine so_nil ?_; refine sn_then ?_)
  refine sw_if rfl (fun h4 => ?_) (fun h4 => ?_)
  · (refine sw_seq ?_; refine sw_region ?_; (iterate 2 refine so_1 rfl ?_); refine so_nil ?_; refine sn_then ?_; refine sw_ret ?_; refine sn_then_ret ?_)
    refine sn_ret rfl (.tmp rfl (.tmp rfl .nil)) (Ent.refl _) ?_
    exact ⟨rfl, rfl⟩
  exact absurd ⟨by omega, by omega, by omega, by omega⟩ h
theorem rLoad_S (h : rangeOk w nx) (hbs : ∀ d ∈ l, d.b.length ≤ 1000000) (hl : ∀ w, Sat b F w → SLs w va l) : SC Try.prog n_entrepotref09_Load [.int .i64 w, .int .i64 nx, va] b F
    (fun v F' => if l.length ≤ 8 ∧ sesOk nx 0 (l.map Ds.se) = true then ∃ g A c D, v = .tuple ⟨[.pointer (some ⟨g, 0, none⟩), .int .i64 0]⟩ ∧ D.map Ds.se = l.map Ds.se ∧ F' = tbR g w nx A c D.length D F
      else v = .tuple ⟨[.pointer none, .int .i64 2]⟩ ∧ F' = F) := by
  obtain ⟨r1, r2, r3, r4⟩ := h
  refine enterS F_entrepotref09_Load rfl rfl rfl ?_
  refine sw_fact (fun w H => sl_form (hl w H).sl) ?_
  rintro ⟨A0, c0, rfl, q1, q2, q3, q4, _⟩
  (refine sw_seq ?_; refine sw_region ?_; (iterate 2 refine so_1 rfl ?_); refine so_nil ?_; refine sn_then ?_; (iterate 2 refine sw_seq ?_); refine sw_region ?_; (iterate 3 refine so_1 rfl ?_))
  refine so_if 15 rfl (fun h => absurd h (by omega)) (fun _ => ?_)
  ((iterate 4 refine so_1 rfl ?_))
  refine so_if 19 rfl (fun h => absurd h (by omega)) (fun _ => ?_)
  ((iterate 4 refine so_1 rfl ?_))
  refine so_if 23 rfl (fun h => absurd h (by omega)) (fun _ => ?_)
  ((iterate 3 refine so_1 rfl ?_); refine so_nil ?_; refine sn_then ?_)
  refine sw_if rfl (fun h => absurd h (by omega)) (fun _ => ?_)
  (refine sw_skip ?_; refine sn_then ?_; refine sw_seq ?_; refine sw_region ?_; (iterate 4 refine so_1 rfl ?_); refine so_nil ?_; refine sn_then ?_; refine sw_seq ?_; refine sw_region ?_; refine so_1 rfl ?_; refine so_nil ?_; refine sn_then ?_; refine sw_seq ?_; refine sw_region ?_; (iterate 3 refine so_1 rfl ?_))
  refine so_box rfl rfl rfl rfl rfl fun g => ?_
  (refine so_1 rfl ?_; refine so_nil ?_; refine sn_then ?_; (iterate 2 refine sw_seq ?_); refine sw_region ?_; refine so_1 rfl ?_; refine so_nil ?_; refine sn_then ?_; refine sw_block ?_)
  refine sw_loop (S := List Ds × Option Addr × Nat × Int × Bool) (fun s => [(0, .int .i64 w), (1, .int .i64 nx), (2, .slice A0 l.length c0), (8, .bool s.2.2.2.2), (9, .int .i64 s.2.2.2.1), (10, .pointer (some ⟨g, 0, none⟩)), (11, .int .i64 s.1.length)]) (fun s => tbR g w nx s.2.1 s.2.2.1 s.1.length s.1 F)
    (fun s => s.1.length ≤ l.length ∧ s.1.map Ds.se = (l.take s.1.length).map Ds.se ∧ (s.2.2.2.2 = true → l.length ≤ 8 ∧ sesOk nx 0 (l.map Ds.se) = sesOk nx s.2.2.2.1 ((l.drop s.1.length).map Ds.se)) ∧ (s.2.2.2.2 = false → ¬ (l.length ≤ 8 ∧ sesOk nx 0 (l.map Ds.se) = true))) (fun s => l.length - s.1.length) ([], none, 0, 0, decide ((l.length : Int) ≤ 8)) ⟨rfl, rfl, rfl, rfl, rfl, rfl, rfl, trivial⟩
    ((ent_row_nil t_api_Session 3 rfl).trans ((ent_close (G := [])).trans (ent_keep 3 [2, 1, 0] rfl rfl))) ⟨Nat.zero_le _, rfl, fun h => ⟨by have := of_decide_eq_true h; omega, rfl⟩, fun h hh => of_decide_eq_false h (by have := hh.1; omega)⟩ ?_
  rintro ⟨D, A, c, last, ok⟩ ⟨hDn, hse, hok, hno⟩
  dsimp only at hDn hse hok hno ⊢
  ((iterate 2 refine sw_seq ?_); refine sw_region ?_; (iterate 5 refine so_1 rfl ?_))
  cases ok with
  | false =>
    by_cases h2 : D.length < l.length
    · refine so_know 38 (.bool true) rfl (congrArg Value.bool (decide_eq_true (by omega))) ?_
      ((iterate 2 refine so_1 rfl ?_); refine so_nil ?_; refine sn_then ?_; refine sw_cond_f rfl ?_; refine sw_exit ?_; refine sn_then_exit ?_; refine sn_loop_exit ?_; refine sn_block_exit ?_; refine sn_then ?_; (iterate 2 refine sw_seq ?_); refine sw_region ?_; (iterate 2 refine so_1 rfl ?_); refine so_nil ?_; refine sn_then ?_; refine sw_cond_t rfl ?_; refine sw_seq ?_; refine sw_region ?_; (iterate 2 refine so_1 rfl ?_); refine so_nil ?_; refine sn_then ?_; refine sw_ret ?_; refine sn_then_ret ?_)
      refine sn_ret rfl (.tmp rfl (.tmp rfl .nil)) (ent_keep 3 [] rfl rfl) ?_
      rw [if_neg (hno rfl)]; exact ⟨rfl, rfl⟩
    · refine so_know 38 (.bool false) rfl (congrArg Value.bool (decide_eq_false (by omega))) ?_
      ((iterate 2 refine so_1 rfl ?_); refine so_nil ?_; refine sn_then ?_; refine sw_cond_f rfl ?_; refine sw_exit ?_; refine sn_then_exit ?_; refine sn_loop_exit ?_; refine sn_block_exit ?_; refine sn_then ?_; (iterate 2 refine sw_seq ?_); refine sw_region ?_; (iterate 2 refine so_1 rfl ?_); refine so_nil ?_; refine sn_then ?_; refine sw_cond_t rfl ?_; refine sw_seq ?_; refine sw_region ?_; (iterate 2 refine so_1 rfl ?_); refine so_nil ?_; refine sn_then ?_; refine sw_ret ?_; refine sn_then_ret ?_)
      refine sn_ret rfl (.tmp rfl (.tmp rfl .nil)) (ent_keep 3 [] rfl rfl) ?_
      rw [if_neg (hno rfl)]; exact ⟨rfl, rfl⟩
  | true =>
    obtain ⟨h8, hok⟩ := hok rfl
    clear hno
    by_cases h2 : D.length < l.length
    · refine so_know 38 (.bool true) rfl (congrArg Value.bool (decide_eq_true (by omega))) ?_
      have hi : D.length < l.length := h2
      obtain ⟨gg, oo, rfl⟩ := q4 (by omega)
      have hc : ∀ w, Sat b F w → ∀ j, j < 3 → w.cell? ⟨gg, oo + D.length * 3 + j, none⟩ = (dsC l[D.length])[j]? := fun w H j hj => fl_cell (hl w H).sl (dsC_len l) hi hj
      have hv : ∀ w, Sat b F w → VL (Value.int .u8) w l[D.length].bv l[D.length].b := fun w H => (hl w H).bs _ (List.getElem_mem hi)
      have hdrop : (l.drop D.length).map Ds.se = l[D.length].se :: (l.drop (D.length + 1)).map Ds.se := by rw [List.drop_eq_getElem_cons hi]; rfl
      rw [hdrop] at hok
      have htake : (l.take (D.length + 1)).map Ds.se = (l.take D.length).map Ds.se ++ [l[D.length].se] := by rw [List.take_succ_eq_append_getElem hi, List.map_append, List.map_singleton]
      have hbl := hbs _ (List.getElem_mem hi)
      generalize l[D.length] = d at *
      refine so_fact (fun w H => (hv w (H.ent (ent_keep 3 [] rfl rfl))).form) ?_
      rintro ⟨A7, c7, hv7, b1, b2, b3, b4⟩
      obtain ⟨dn, dr, dbv, db⟩ := d
      dsimp only at hv7 b1 b4 hv hbl
      subst hv7
      have hok' : sesOk nx 0 (l.map Ds.se) = (decide (seOk nx last (dn, dr, db)) && sesOk nx dn ((l.drop (D.length + 1)).map Ds.se)) := hok
      ((iterate 2 refine so_1 rfl ?_); refine so_nil ?_; refine sn_then ?_; refine sw_cond_t rfl ?_; refine sw_skip ?_; refine sn_then ?_; refine sw_seq ?_; refine sw_block ?_; refine sw_seq ?_; refine sw_region ?_; (iterate 2 refine so_1 rfl ?_); refine so_2 rfl (by omega) ?_)
      refine so_rd rfl (fun w H => ex_loadN (cs := dsC ⟨dn, dr, .slice A7 db.length c7, db⟩) rfl rfl rfl rfl (fun q hq => by rw [mulz_eq, Int.toNat_natCast]; exact hc w (H.ent (ent_keep 3 [] rfl rfl)) q hq)) rfl ?_
      skip
      refine so_new rfl rfl rfl rfl rfl fun g12 => ?_
      refine so_s1 0 rfl rfl rfl rfl ?_
      refine so_nil (sn_then ?_)
      refine sw_mid (S := Bool) (fun f => [(0, .int .i64 w), (1, .int .i64 nx), (2, .slice (some ⟨gg, oo, none⟩) l.length c0), (8, .bool f), (9, .int .i64 last), (10, .pointer (some ⟨g, 0, none⟩)), (11, .int .i64 D.length), (12, .pointer (some ⟨g12, 0, none⟩))]) (fun _ => pt g12 t_api_Session (ssC dn dr (.slice A7 db.length c7)) :: tbR g w nx A c D.length D F) (fun f => f = decide (seOk nx last (dn, dr, db))) ?_ ?_
      · (refine sw_region ?_; refine so_1 rfl ?_; refine so_l 0 rfl rfl rfl ?_; (iterate 3 refine so_1 rfl ?_))
        by_cases k1 : last < dn
        · refine so_know 51 (.bool true) rfl (congrArg Value.bool (decide_eq_true k1)) ?_
          (refine so_1 rfl ?_; refine so_l 0 rfl rfl rfl ?_; (iterate 4 refine so_1 rfl ?_))
          by_cases k2 : dn < nx
          case neg =>
            refine so_know 57 (.bool false) rfl (congrArg Value.bool (decide_eq_false k2)) ?_
            ((iterate 13 refine so_1 rfl ?_); refine so_nil ?_)
            refine sn_mid false ⟨rfl, rfl, rfl, rfl, rfl, rfl, rfl, rfl, trivial⟩ (Ent.refl _) ?_
            exact (decide_eq_false fun h => k2 h.2.1).symm
          refine so_know 57 (.bool true) rfl (congrArg Value.bool (decide_eq_true k2)) ?_
          (refine so_1 rfl ?_; refine so_l 0 rfl rfl rfl ?_)
          refine so_callE rfl rfl rfl (rRepo_S) ?_
          (refine so_1 rfl ?_)
          refine so_pu rfl (pu_eqA rfl rfl (eq_fault (repoF (strI dr)).1 (repoF (strI dr)).2 0 0)) rfl ?_
          ((iterate 2 refine so_1 rfl ?_))
          by_cases hr : repoF (strI dr) = (0, 0)
          case neg =>
            refine so_know 64 (.bool false) rfl (congrArg Value.bool (decide_eq_false fun h => hr (Prod.ext h.1 h.2))) ?_
            ((iterate 6 refine so_1 rfl ?_); refine so_nil ?_)
            refine sn_mid false ⟨rfl, rfl, rfl, rfl, rfl, rfl, rfl, rfl, trivial⟩ (Ent.refl _) ?_
            exact (decide_eq_false fun h => hr h.2.2.2).symm
          refine so_know 64 (.bool true) rfl (congrArg Value.bool (decide_eq_true (by rw [hr]; exact ⟨rfl, rfl⟩))) ?_
          (refine so_1 rfl ?_; refine so_l 0 rfl rfl rfl ?_; (iterate 4 refine so_1 rfl ?_); refine so_nil ?_)
          refine sn_mid (decide ((db.length : Int) ≤ 4096)) ⟨rfl, rfl, rfl, rfl, rfl, rfl, rfl, rfl, trivial⟩ (Ent.refl _) ?_
          have e : ((db.length : Int) ≤ 4096) ↔ seOk nx last (dn, dr, db) := ⟨fun h => ⟨k1, k2, by dsimp only; omega, hr⟩, fun h => by have := h.2.2.1; dsimp only at this; omega⟩
          simp only [e]
        · refine so_know 51 (.bool false) rfl (congrArg Value.bool (decide_eq_false k1)) ?_
          ((iterate 19 refine so_1 rfl ?_); refine so_nil ?_)
          refine sn_mid false ⟨rfl, rfl, rfl, rfl, rfl, rfl, rfl, rfl, trivial⟩ (Ent.refl _) ?_
          exact (decide_eq_false fun h => k1 h.1).symm
      · rintro f hf
        rw [← hf] at hok'
        (refine sw_seq ?_; refine sw_region ?_; refine so_1 rfl ?_; refine so_l 0 rfl rfl rfl ?_; refine so_1 rfl ?_; refine so_nil ?_; refine sn_then ?_; refine sw_seq ?_; refine sw_region ?_)
        refine so_lit [] rfl rfl rfl rfl rfl rfl rfl rfl rfl fun g0 => ?_
        refine so_ent (ent_blk_row (n := 0) (sz := 1) rfl rfl (by decide) 0 rfl rfl) ?_
        (refine so_1 rfl ?_; refine so_l 1 rfl rfl rfl ?_)
        refine so_append 0 rfl rfl rfl rfl rfl rfl rfl rfl rfl (up hv (ent_keep 5 [] rfl rfl)) (u8s_one _) (by omega) (fun _ => rfl) fun v6 => ?_
        refine so_fact (fun w H => (H.oat (k := 0) rfl).form) ?_
        rintro ⟨A6, c6, rfl, _, _, _⟩
        (refine so_1 rfl ?_; refine so_s1 1 rfl rfl rfl rfl ?_; refine so_nil ?_; refine sn_then ?_)
        refine sw_draw2 flo 10 (pt g12 t_api_Session (ssC dn dr (.slice A6 (0 + db.length) c6)) :: pt g t_entrepotref09_Table [.int .i64 w, .int .i64 nx, .slice A D.length c] :: F) [] rfl (by decide +kernel) (ent_keep 5 [1, 2] rfl rfl) ?_
        ((iterate 4 refine sd_1 rfl (.inl rfl) ?_); refine sd_l 1 rfl rfl rfl rfl ?_; refine sd_l 0 rfl rfl rfl rfl ?_)
        refine sd_lit1 rfl rfl rfl rfl rfl rfl rfl rfl rfl (by decide) (ent_keep 5 [1, 2] rfl rfl) fun gl => ?_
        refine sd_append 4 rfl rfl rfl rfl rfl rfl rfl rfl rfl rfl (m := 1) (news := ssC dn dr (.slice A6 (0 + db.length) c6)) (fun w H => (H.blk (k := 0) rfl).sl rfl (by decide)) (by simp [ssC, Value.oneCell']) (by omega) (fun _ => rfl) (fun _ => ent_keep 6 [2, 3] rfl rfl) fun v8 => ?_
        refine sd_fact (fun w H => (H.oat (k := 4) rfl).form) ?_
        rintro ⟨A8, c8, rfl, _, _, _⟩
        ((iterate 2 refine sd_1 rfl (.inl rfl) ?_))
        refine sd_nil (sn_draw2 rfl (ent_nil _) ?_)
        refine sd_st 3 rfl rfl rfl rfl rfl rfl rfl rfl rfl rfl rfl (ent_nil _) ?_
        refine sd_nil ?_
        (refine sn_block ?_; refine sn_then ?_; refine sw_region ?_; refine so_1 rfl ?_; refine so_2 rfl (by (unfold I64; omega)) ?_; refine so_1 rfl ?_; refine so_nil ?_)
        have hrb : row t_uint8 1 (.slice A6 (0 + db.length) c6) (0 + db.length) ([] ++ u8s db) = rB (.slice A6 (0 + db.length) c6) db := by simp [rB]
        have hrow : row t_api_Session 3 (.slice A8 (D.length + 1) c8) (D.length + 1) (flC dsC D ++ ssC dn dr (.slice A6 (0 + db.length) c6)) = rSn A8 c8 (D.length + 1) (D ++ [⟨dn, dr, .slice A6 (0 + db.length) c6, db⟩]) := by simp [rSn, flC_app, flC, dsC]
        refine sn_round (D ++ [⟨dn, dr, .slice A6 (0 + db.length) c6, db⟩], A8, c8, dn, f) ⟨rfl, rfl, rfl, rfl, rfl, rfl, ?_, trivial⟩ ?_ ⟨?_, ?_, ?_, ?_⟩ ?_
        · dsimp only; rw [List.length_append]; rfl
        · dsimp only
          rw [List.length_append, List.length_singleton]
          show Ent (_ :: row t_uint8 1 (.slice A6 (0 + db.length) c6) (0 + db.length) ([] ++ u8s db) :: _ :: _ :: row t_api_Session 3 (.slice A8 (D.length + 1) c8) (D.length + 1) (flC dsC D ++ ssC dn dr (.slice A6 (0 + db.length) c6)) :: _) _
          rw [hrb, hrow]
          exact (ent_keep 6 [1, 5, 3, 4] rfl rfl).trans ((ent_in (A := dsF (D ++ [⟨dn, dr, .slice A6 (0 + db.length) c6, db⟩])) (B := [rB (.slice A6 (0 + db.length) c6) db]) (C := dsF D) dsF_snoc).trans (ent_keep 3 [1, 2, 0] rfl rfl))
        · dsimp only; rw [List.length_append, List.length_singleton]; omega
        · dsimp only; rw [List.length_append, List.length_singleton, htake, List.map_append, hse, List.map_singleton]; rfl
        · dsimp only; rw [List.length_append, List.length_singleton, hok']
          rintro rfl
          exact ⟨h8, rfl⟩
        · dsimp only
          rintro rfl ⟨_, h⟩
          rw [hok'] at h; simp at h
        · dsimp only; rw [List.length_append, List.length_singleton]; omega
    · refine so_know 38 (.bool false) rfl (congrArg Value.bool (decide_eq_false (by omega))) ?_
      ((iterate 2 refine so_1 rfl ?_); refine so_nil ?_; refine sn_then ?_; refine sw_cond_f rfl ?_; refine sw_exit ?_; refine sn_then_exit ?_; refine sn_loop_exit ?_; refine sn_block_exit ?_; refine sn_then ?_; (iterate 2 refine sw_seq ?_); refine sw_region ?_; (iterate 2 refine so_1 rfl ?_); refine so_nil ?_; refine sn_then ?_; refine sw_cond_f rfl ?_; refine sw_skip ?_; refine sn_then ?_; refine sw_seq ?_; refine sw_region ?_; (iterate 3 refine so_1 rfl ?_); refine so_nil ?_; refine sn_then ?_; refine sw_ret ?_)
      have hii : D.length = l.length := by omega
      refine sn_ret rfl (.tmp rfl (.tmp rfl .nil)) (Ent.refl _) ?_
      rw [hii, List.drop_length] at hok
      rw [if_pos ⟨by omega, by rw [hok]; rfl⟩]
      exact ⟨g, A, c, D, rfl, by rw [hse, hii, List.take_length], rfl⟩
theorem rNew_bad (h : ¬ (1 ≤ w ∧ w ≤ 32)) : SC Try.prog n_entrepotref09_New [.int .i64 w] b F (fun v F' => v = .tuple ⟨[.pointer none, .int .i64 3]⟩ ∧ F' = F) := by
  refine enterS F_entrepotref09_New rfl rfl rfl ?_
  (refine sw_seq ?_; refine sw_region ?_; (iterate 2 refine so_1 rfl ?_); refine so_nil ?_; refine sn_then ?_; refine sw_seq ?_; refine sw_region ?_; refine so_1 rfl ?_)
  refine so_callE rfl rfl rfl (rLoad_range (fun hr => h ⟨hr.1, hr.2.1⟩)) ?_
  ((iterate 4 refine so_1 rfl ?_); refine so_nil ?_; refine sn_then ?_; refine sw_ret ?_)
  refine sn_ret rfl (.tmp rfl (.tmp rfl .nil)) (Ent.refl _) ?_
  exact ⟨rfl, rfl⟩
theorem rNew_S (h : 1 ≤ w ∧ w ≤ 32) : SC Try.prog n_entrepotref09_New [.int .i64 w] b F (fun v F' => ∃ g A c, v = .tuple ⟨[.pointer (some ⟨g, 0, none⟩), .int .i64 0]⟩ ∧ F' = tbR g w 1 A c 0 [] F) := by
  refine enterS F_entrepotref09_New rfl rfl rfl ?_
  (refine sw_seq ?_; refine sw_region ?_; (iterate 2 refine so_1 rfl ?_); refine so_nil ?_; refine sn_then ?_; refine sw_seq ?_; refine sw_region ?_; refine so_1 rfl ?_)
  refine so_call rfl rfl rfl (rLoad_S (l := []) ⟨h.1, h.2, by omega, by omega⟩ (fun d hd => by simp at hd) fun w _ => sls_nil w) ?_
  intro v F' hR
  rw [if_pos ⟨by simp, rfl⟩] at hR
  obtain ⟨g, A, c, D, rfl, hD, rfl⟩ := hR
  have hn : D = [] := by simpa using hD
  subst hn
  ((iterate 4 refine so_1 rfl ?_); refine so_nil ?_; refine sn_then ?_; refine sw_ret ?_)
  refine sn_ret rfl (.tmp rfl (.tmp rfl .nil)) (Ent.refl _) ?_
  exact ⟨g, A, c, rfl, rfl⟩
end
end Go.Proofs.Ytjfileaidgknjaa
/- Uploads, part twenty-two: the kit's functions on sessions. Conditions: none. -/
namespace Go.Proofs.Ytjfileaidgknjaa
open Go Go.Eng Go.RowKit

section
variable {b : World} {F : List SP}
theorem SameBytes_T {va vb : Value} {xs : List Int} (ha : ∀ w, Sat b F w → VL (Value.int .u8) w va xs) (hb : ∀ w, Sat b F w → VL (Value.int .u8) w vb xs) :
    SC Try.prog n_entrepotkit_SameBytes [va, vb] b F (fun v F' => v = .bool true ∧ F' = F) := by
  refine enterS F_entrepotkit_SameBytes rfl rfl rfl ?_
  (refine sw_seq ?_; refine sw_region ?_; refine so_1 rfl ?_; refine so_nil ?_; refine sn_then ?_; refine sw_seq ?_; refine sw_region ?_; refine so_1 rfl ?_)
  refine so_b2s rfl rfl rfl rfl rfl rfl rfl ha ?_
  (refine so_1 rfl ?_)
  refine so_b2s rfl rfl rfl rfl rfl rfl rfl hb ?_
  ((iterate 2 refine so_1 rfl ?_); refine so_nil ?_; refine sn_then ?_; refine sw_ret ?_)
  refine sn_ret rfl (.tmp rfl .nil) (ent_keep 0 [] rfl rfl) ?_
  exact ⟨congrArg Value.bool (decide_eq_true rfl), rfl⟩
theorem SameSession_S {n : Int} {r : ByteArray} {va vb : Value} {xs : List Int} (ha : ∀ w, Sat b F w → VL (Value.int .u8) w va xs) (hb : ∀ w, Sat b F w → VL (Value.int .u8) w vb xs) :
    SC Try.prog n_entrepotkit_SameSession [.agg ⟨ssC n r va⟩, .agg ⟨ssC n r vb⟩] b F (fun v F' => v = .bool true ∧ F' = F) := by
  refine enterS F_entrepotkit_SameSession rfl rfl rfl ?_
  refine sw_fact (fun w H => (ha w H).form) ?_
  rintro ⟨A1, c1, rfl, _⟩
  refine sw_fact (fun w H => (hb w H).form) ?_
  rintro ⟨A2, c2, rfl, _⟩
  (refine sw_seq ?_; refine sw_region ?_)
  refine so_box rfl rfl rfl rfl rfl fun g2 => ?_
  skip
  refine so_box rfl rfl rfl rfl rfl fun g3 => ?_
  (refine so_1 rfl ?_; refine so_nil ?_; refine sn_then ?_; refine sw_seq ?_; refine sw_region ?_; refine so_1 rfl ?_; refine so_l 1 rfl rfl rfl ?_; refine so_1 rfl ?_; refine so_l 0 rfl rfl rfl ?_; (iterate 2 refine so_1 rfl ?_))
  refine so_know 10 (.bool true) rfl (congrArg Value.bool (decide_eq_true rfl)) ?_
  (refine so_1 rfl ?_; refine so_l 1 rfl rfl rfl ?_; refine so_1 rfl ?_; refine so_l 0 rfl rfl rfl ?_; (iterate 3 refine so_1 rfl ?_))
  refine so_know 17 (.bool true) rfl (congrArg Value.bool (decide_eq_true rfl)) ?_
  (refine so_1 rfl ?_; refine so_l 1 rfl rfl rfl ?_; refine so_1 rfl ?_; refine so_l 0 rfl rfl rfl ?_)
  refine so_callE rfl rfl rfl (SameBytes_T (up ha (ent_keep 2 [] rfl rfl)) (up hb (ent_keep 2 [] rfl rfl))) ?_
  ((iterate 2 refine so_1 rfl ?_); refine so_nil ?_; refine sn_then ?_; refine sw_ret ?_)
  refine sn_ret rfl (.tmp rfl .nil) (ent_keep 2 [] rfl rfl) ?_
  exact ⟨rfl, rfl⟩
theorem SameSessions_S {va vb : Value} {D E : List Ds} (ha : ∀ w, Sat b F w → SLs w va D) (hb : ∀ w, Sat b F w → SLs w vb E) (he : D.map Ds.se = E.map Ds.se) (h8 : D.length ≤ 1000) :
    SC Try.prog n_entrepotkit_SameSessions [va, vb] b F (fun v F' => v = .bool true ∧ F' = F) := by
  have hlen : D.length = E.length := by simpa using congrArg List.length he
  refine enterS F_entrepotkit_SameSessions rfl rfl rfl ?_
  refine sw_fact (fun w H => sl_form (ha w H).sl) ?_
  rintro ⟨A0, c0, rfl, a1, a2, a3, a4, _⟩
  refine sw_fact (fun w H => sl_form (hb w H).sl) ?_
  rintro ⟨B0, d0, rfl, b1, b2, b3, b4, _⟩
  (refine sw_seq ?_; refine sw_region ?_; refine so_1 rfl ?_; refine so_nil ?_; refine sn_then ?_; refine sw_seq ?_; refine sw_region ?_; (iterate 6 refine so_1 rfl ?_); refine so_nil ?_; refine sn_then ?_; (iterate 2 refine sw_seq ?_); refine sw_region ?_; refine so_1 rfl ?_; refine so_nil ?_; refine sn_then ?_; refine sw_block ?_)
  refine sw_loop (S := Nat) (fun i => [(0, .slice A0 D.length c0), (1, .slice B0 E.length d0), (5, .bool true), (6, .int .i64 i)]) (fun _ => F) (fun i => i ≤ D.length) (fun i => D.length - i) 0 ⟨rfl, rfl, ?_, rfl, trivial⟩ (Ent.refl _) (Nat.zero_le _) ?_
  · exact congrArg (fun x => some (Value.bool x)) (decide_eq_true (by omega))
  intro i hi
  ((iterate 2 refine sw_seq ?_); refine sw_region ?_; (iterate 7 refine so_1 rfl ?_); refine so_nil ?_; refine sn_then ?_)
  refine sw_if rfl (fun h1 => ?_) (fun h1 => ?_)
  · have hiD : i < D.length := by omega
    have hiE : i < E.length := by omega
    obtain ⟨ga, oa, rfl⟩ := a4 (by omega)
    obtain ⟨gb, ob, rfl⟩ := b4 (by omega)
    have hca : ∀ w, Sat b F w → ∀ j, j < 3 → w.cell? ⟨ga, oa + i * 3 + j, none⟩ = (dsC D[i])[j]? := fun w H j hj => fl_cell (ha w H).sl (dsC_len D) hiD hj
    have hcb : ∀ w, Sat b F w → ∀ j, j < 3 → w.cell? ⟨gb, ob + i * 3 + j, none⟩ = (dsC E[i])[j]? := fun w H j hj => fl_cell (hb w H).sl (dsC_len E) hiE hj
    have hva : ∀ w, Sat b F w → VL (Value.int .u8) w D[i].bv D[i].b := fun w H => (ha w H).bs _ (List.getElem_mem hiD)
    have hvb : ∀ w, Sat b F w → VL (Value.int .u8) w E[i].bv E[i].b := fun w H => (hb w H).bs _ (List.getElem_mem hiE)
    have hse : D[i].se = E[i].se := by
      have := congrArg (fun l => l[i]?) he
      simpa [hiD, hiE] using this
    generalize D[i] = d at *
    generalize E[i] = e at *
    obtain ⟨dn, dr, dv, db⟩ := d
    obtain ⟨en, er, ev', eb⟩ := e
    simp only [Ds.se, Prod.mk.injEq] at hse
    obtain ⟨rfl, rfl, rfl⟩ := hse
    (refine sw_skip ?_; refine sn_then ?_; refine sw_seq ?_; refine sw_block ?_)
    refine sw_draw flo _ (by decide +kernel) (Ent.refl _) ?_
    ((iterate 2 refine sd_1 rfl (.inl rfl) ?_); refine sd_2 rfl rfl (by omega) ?_)
    refine sd_rd rfl (fun w H => ex_loadN (cs := dsC ⟨dn, dr, dv, db⟩) rfl rfl rfl rfl (fun q hq => by rw [mulz_eq, Int.toNat_natCast]; exact hca w H q hq)) rfl rfl ?_
    ((iterate 2 refine sd_1 rfl (.inl rfl) ?_); refine sd_2 rfl rfl (by omega) ?_)
    refine sd_rd rfl (fun w H => ex_loadN (cs := dsC ⟨dn, dr, ev', db⟩) rfl rfl rfl rfl (fun q hq => by rw [mulz_eq, Int.toNat_natCast]; exact hcb w H q hq)) rfl rfl ?_
    skip
    refine sd_callE rfl rfl rfl rfl (SameSession_S hva hvb) (Ent.refl _) ?_
    (refine sd_1 rfl (.inl rfl) ?_)
    refine sd_nil ?_
    (refine sn_block ?_; refine sn_then ?_; refine sw_region ?_; refine so_1 rfl ?_; refine so_2 rfl (by (unfold I64; omega)) ?_; refine so_1 rfl ?_; refine so_nil ?_)
    exact sn_round (i + 1) ⟨rfl, rfl, rfl, rfl, trivial⟩ (Ent.refl _) hiD (by omega)
  · (refine sw_exit ?_; refine sn_then_exit ?_; refine sn_loop_exit ?_; refine sn_block_exit ?_; refine sn_then ?_; refine sw_seq ?_; refine sw_region ?_; (iterate 2 refine so_1 rfl ?_); refine so_nil ?_; refine sn_then ?_; refine sw_ret ?_)
    refine sn_ret rfl (.tmp rfl .nil) (Ent.refl _) ?_
    exact ⟨rfl, rfl⟩
theorem CopySessions_S {va : Value} {l : List Ds} (hl : ∀ w, Sat b F w → SLs w va l) (h8 : l.length ≤ 1000) (hbs : ∀ d ∈ l, d.b.length ≤ 1000000) :
    SC Try.prog n_entrepotkit_CopySessions [va] b F (fun v F' => ∃ D : List Ds, D.map Ds.se = l.map Ds.se ∧ F' = rSs v D :: all (dsF D) :: F) := by
  refine enterS F_entrepotkit_CopySessions rfl rfl rfl ?_
  refine sw_fact (fun w H => sl_form (hl w H).sl) ?_
  rintro ⟨A0, c0, rfl, q1, q2, q3, q4, _⟩
  (refine sw_seq ?_; refine sw_region ?_; refine so_1 rfl ?_; refine so_nil ?_; refine sn_then ?_; refine sw_seq ?_; refine sw_region ?_; refine so_1 rfl ?_; refine so_nil ?_; refine sn_then ?_; (iterate 2 refine sw_seq ?_); refine sw_region ?_; refine so_1 rfl ?_; refine so_nil ?_; refine sn_then ?_; refine sw_block ?_)
  refine sw_loop (S := List Ds × Value) (fun s => [(0, .slice A0 l.length c0), (3, s.2), (4, .int .i64 s.1.length)]) (fun s => rSs s.2 s.1 :: all (dsF s.1) :: F) (fun s => s.1.map Ds.se = (l.take s.1.length).map Ds.se ∧ s.1.length ≤ l.length) (fun s => l.length - s.1.length) ([], .slice none 0 0)
    ⟨rfl, rfl, rfl, trivial⟩ ((ent_row_nil t_api_Session 3 rfl).trans ((ent_close (G := [])).trans (ent_keep 2 [1, 0] rfl rfl))) ⟨rfl, Nat.zero_le _⟩ ?_
  rintro ⟨D', v⟩ ⟨hD, hDn⟩
  dsimp only at hD hDn ⊢
  ((iterate 2 refine sw_seq ?_); refine sw_region ?_; (iterate 4 refine so_1 rfl ?_); refine so_nil ?_; refine sn_then ?_)
  refine sw_if rfl (fun h1 => ?_) (fun h1 => ?_)
  · have hi : D'.length < l.length := by omega
    obtain ⟨gg, oo, rfl⟩ := q4 (by omega)
    have htake : (l.take (D'.length + 1)).map Ds.se = (l.take D'.length).map Ds.se ++ [l[D'.length].se] := by rw [List.take_succ_eq_append_getElem hi, List.map_append, List.map_singleton]
    have hc : ∀ w, Sat b F w → ∀ j, j < 3 → w.cell? ⟨gg, oo + D'.length * 3 + j, none⟩ = (dsC l[D'.length])[j]? := fun w H j hj => fl_cell (hl w H).sl (dsC_len l) hi hj
    have hvl : ∀ w, Sat b F w → VL (Value.int .u8) w l[D'.length].bv l[D'.length].b := fun w H => (hl w H).bs _ (List.getElem_mem hi)
    have hbl := hbs _ (List.getElem_mem hi)
    generalize l[D'.length] = d at *
    refine sw_fact (fun w H => (hvl w (H.ent (ent_keep 2 [] rfl rfl))).form) ?_
    rintro ⟨A7, c7, hv7, b1, b2, b3, b4⟩
    obtain ⟨dn, dr, dbv, db⟩ := d
    dsimp only at hv7 b1 b4 hvl hbl
    subst hv7
    (refine sw_skip ?_; refine sn_then ?_; refine sw_seq ?_; refine sw_block ?_; refine sw_seq ?_; refine sw_region ?_; (iterate 2 refine so_1 rfl ?_); refine so_2 rfl (by omega) ?_)
    refine so_rd rfl (fun w H => ex_loadN (cs := ssC dn dr (.slice A7 db.length c7)) rfl rfl rfl rfl (fun q hq => by rw [mulz_eq, Int.toNat_natCast]; exact hc w (H.ent (ent_keep 2 [] rfl rfl)) q hq)) rfl ?_
    skip
    refine so_new rfl rfl rfl rfl rfl fun g5 => ?_
    (refine so_s1 0 rfl rfl rfl rfl ?_; refine so_nil ?_; refine sn_then ?_; refine sw_seq ?_; refine sw_region ?_; refine so_1 rfl ?_; refine so_l 0 rfl rfl rfl ?_)
    refine so_call rfl rfl rfl (SC.ofMade fun w H => CopyBytes_spec (hvl w (H.ent (ent_keep 3 [] rfl rfl))) (by omega)) ?_
    rintro v6 _ rfl
    refine so_fact (fun w H => (H.oat (k := 0) rfl).form) ?_
    rintro ⟨A6, c6, rfl, _, _, _⟩
    (refine so_1 rfl ?_; refine so_s1 1 rfl rfl rfl rfl ?_; refine so_nil ?_; refine sn_then ?_; refine sw_region ?_; refine so_1 rfl ?_; refine so_l 1 rfl rfl rfl ?_)
    refine so_lit1 rfl rfl rfl rfl rfl rfl rfl rfl (by decide) fun gl => ?_
    refine so_append 3 rfl rfl rfl rfl rfl rfl rfl rfl rfl (m := 1) (news := ssC dn dr (.slice A6 db.length c6)) (fun w H => (H.blk (k := 0) rfl).sl rfl (by decide)) (by simp [ssC, Value.oneCell']) (by omega) (fun _ => rfl) fun v' => ?_
    have hrow : row t_api_Session 3 v' (D'.length + 1) (flC dsC D' ++ ssC dn dr (.slice A6 db.length c6)) = rSs v' (D' ++ [⟨dn, dr, .slice A6 db.length c6, db⟩]) := by simp [rSs, flC_app, flC, dsC]
    rw [hrow]
    (refine so_1 rfl ?_; refine so_nil ?_; refine sn_block ?_; refine sn_then ?_; refine sw_region ?_; refine so_1 rfl ?_; refine so_2 rfl (by (unfold I64; omega)) ?_; refine so_1 rfl ?_; refine so_nil ?_)
    refine sn_round (D' ++ [⟨dn, dr, .slice A6 db.length c6, db⟩], v') ⟨rfl, rfl, ?_, trivial⟩ ?_ ⟨?_, ?_⟩ ?_
    · dsimp only; rw [List.length_append]; rfl
    · exact (ent_keep 5 [1, 4, 3] rfl rfl).trans ((ent_in (B := [rB (.slice A6 db.length c6) db]) dsF_snoc).trans (ent_keep 2 [1, 0] rfl rfl))
    · dsimp only; rw [List.length_append, List.length_singleton, htake, List.map_append, hD, List.map_singleton]; rfl
    · simp; omega
    · simp; omega
  · (refine sw_exit ?_; refine sn_then_exit ?_; refine sn_loop_exit ?_; refine sn_block_exit ?_; refine sn_then ?_; refine sw_seq ?_; refine sw_region ?_; (iterate 2 refine so_1 rfl ?_); refine so_nil ?_; refine sn_then ?_; refine sw_ret ?_)
    refine sn_ret rfl (.tmp rfl .nil) (Ent.refl _) ?_
    refine ⟨D', ?_, rfl⟩
    rw [hD, List.take_of_length_le (by omega)]
theorem OverSessions_S {v : Value} {D : List Ds} (h8 : D.length ≤ 1000) (hbs : ∀ d ∈ D, d.b.length ≤ 1000000) : SC Try.prog n_entrepotkit_OverSessions [v] b (rSs v D :: all (dsF D) :: F) (fun _ F' => F' = F) := by
  refine enterS F_entrepotkit_OverSessions rfl rfl rfl ?_
  refine sw_fact (fun w H => (H.oat (k := 0) rfl).form) ?_
  rintro ⟨A, c, rfl, q1, q2, q3⟩
  (refine sw_seq ?_; refine sw_region ?_; refine so_1 rfl ?_; refine so_nil ?_; refine sn_then ?_; refine sw_block ?_)
  refine sw_loop (S := Nat × List Value) (fun s => [(0, .slice A D.length c), (2, .int .i64 s.1)]) (fun s => row t_api_Session 3 (.slice A D.length c) D.length s.2 :: all (dsF (D.drop s.1)) :: F) (fun s => s.1 ≤ D.length ∧ s.2.length = D.length * 3 ∧ s.2.drop (s.1 * 3) = flC dsC (D.drop s.1)) (fun s => D.length - s.1) (0, flC dsC D) ⟨rfl, rfl, trivial⟩ (Ent.refl _) ⟨Nat.zero_le _, flC_len (dsC_len D), rfl⟩ ?_
  rintro ⟨i, cs⟩ ⟨hi, hcl, hcs⟩
  dsimp only at hi hcl hcs ⊢
  ((iterate 2 refine sw_seq ?_); refine sw_region ?_; (iterate 4 refine so_1 rfl ?_); refine so_nil ?_; refine sn_then ?_)
  refine sw_if rfl (fun h1 => ?_) (fun h1 => ?_)
  · have hiD : i < D.length := by omega
    obtain ⟨gg, oo, rfl⟩ := q3 (by omega)
    (refine sw_skip ?_; refine sn_then ?_; refine sw_seq ?_; refine sw_block ?_; refine sw_seq ?_; refine sw_region ?_; (iterate 2 refine so_1 rfl ?_); refine so_2 rfl (by omega) ?_; refine so_1 rfl ?_)
    have hdrop : D.drop i = D[i] :: D.drop (i + 1) := List.drop_eq_getElem_cons hiD
    have hbl := hbs _ (List.getElem_mem hiD)
    rw [hdrop] at hcs ⊢
    generalize D[i] = d at *
    obtain ⟨dn, dr, dv, db⟩ := d
    dsimp only at hbl
    have hcell : cs[i * 3 + 2]? = some dv := by
      have : (cs.drop (i * 3))[2]? = some dv := by rw [hcs]; rfl
      rwa [List.getElem?_drop] at this
    show SO _ _ _ _ _ _ _ _ _ (row t_api_Session 3 (.slice (some ⟨gg, oo, none⟩) D.length c) D.length cs :: all (rB dv db :: dsF (D.drop (i + 1))) :: F)
    refine so_ent ((ent_keep 2 [1, 0] rfl rfl).trans ((ent_out (A := rB dv db :: dsF (D.drop (i + 1))) (B := [rB dv db]) (C := dsF (D.drop (i + 1))) (List.Perm.refl _)).trans (ent_keep 3 [0, 2, 1] rfl rfl))) ?_
    refine so_fact (fun w H => (H.oat (k := 0) rfl).form) ?_
    rintro ⟨A6, c6, rfl, _, _, _⟩
    refine so_rd rfl (fun w H => ex_load rfl rfl rfl (by rw [mulz_eq, Int.toNat_natCast]; exact row_cell (k := 1) rfl hcell w H)) rfl ?_
    skip
    refine so_call rfl rfl rfl (OverBytes_S (by omega)) ?_
    rintro _ _ ⟨l', rfl⟩
    (refine so_nil ?_; refine sn_then ?_; refine sw_region ?_; (iterate 3 refine so_1 rfl ?_); refine so_2 rfl (by omega) ?_)
    refine so_strow (vs := [.int .i64 (-7), .string ⟨#[]⟩, .slice none 0 0]) (cs' := spl cs (i * 3) [.int .i64 (-7), .string ⟨#[]⟩, .slice none 0 0]) 1 (i * 3) rfl rfl rfl rfl rfl rfl rfl rfl rfl rfl (by rw [mulz_eq, Int.toNat_natCast]) (by rw [hcl]; show i * 3 + 3 ≤ _; omega) (by intro u hu; simp at hu; rcases hu with rfl | rfl | rfl <;> rfl) ?_
    (refine so_nil ?_; refine sn_block ?_; refine sn_then ?_; refine sw_region ?_; refine so_1 rfl ?_; refine so_2 rfl (by (unfold I64; omega)) ?_; refine so_1 rfl ?_; refine so_nil ?_)
    refine sn_round (i + 1, _) ⟨rfl, rfl, trivial⟩ (ent_keep 3 [1, 2] rfl rfl) ⟨hiD, ?_, ?_⟩ ?_
    · exact (spl_length (vs := [.int .i64 (-7), .string ⟨#[]⟩, .slice none 0 0]) (by rw [hcl]; show i * 3 + 3 ≤ _; omega)).trans hcl
    · dsimp only
      have : cs.drop ((i + 1) * 3) = flC dsC (D.drop (i + 1)) := by
        rw [show (i + 1) * 3 = 3 + i * 3 by omega, Nat.add_comm, ← List.drop_drop, hcs]; rfl
      rw [← this]
      have hl3 : (cs.take (i * 3)).length = i * 3 := by rw [List.length_take, hcl]; omega
      show (cs.take (i * 3) ++ ([Value.int .i64 (-7), Value.string ⟨#[]⟩, Value.slice none 0 0] ++ cs.drop (i * 3 + 3))).drop ((i + 1) * 3) = _
      rw [← List.append_assoc, List.drop_left' (by rw [List.length_append, hl3]; show i * 3 + 3 = _; omega), show i * 3 + 3 = (i + 1) * 3 by omega]
    · dsimp only; omega
  · (refine sw_exit ?_; refine sn_then_exit ?_; refine sn_loop_exit ?_; refine sn_block_exit ?_)
    refine sn_end rfl .nil (ent_keep 2 [] rfl rfl) ?_
    rfl
end
end Go.Proofs.Ytjfileaidgknjaa
/- Uploads, part twenty-three: both tables as anybody sees them. Conditions: none. -/
namespace Go.Proofs.Ytjfileaidgknjaa
open Go Go.Eng Go.RowKit

def ixS (l : List Se) (x : Int) : Nat := l.findIdx (fun s => decide (s.1 = x))
theorem ixS_le (l : List Se) (x : Int) : ixS l x ≤ l.length := List.findIdx_le_length
theorem ixS_lt {l : List Se} {x : Int} {j : Nat} (hj : j < l.length) (h : j < ixS l x) : l[j].1 ≠ x := fun e => by
  have := List.not_of_lt_findIdx h
  simp [e] at this
theorem ixS_at {l : List Se} {x : Int} (h : ixS l x < l.length) : l[ixS l x].1 = x := of_decide_eq_true (List.findIdx_getElem (w := h))
theorem ixS_no {l : List Se} {x : Int} (h : ¬ ixS l x < l.length) : ∀ s ∈ l, s.1 ≠ x := fun s hs e => by
  obtain ⟨j, hj, rfl⟩ := List.mem_iff_getElem.1 hs
  exact ixS_lt hj (by have := ixS_le l x; omega) e
def wrT (l : List Se) (x off : Int) (xs : List Int) : (Int × Int) × List Se :=
  if h : ixS l x < l.length then
    if off ≠ l[ixS l x].2.2.length then ((l[ixS l x].2.2.length, 13), l)
    else if (4096 : Int) < l[ixS l x].2.2.length + xs.length then ((l[ixS l x].2.2.length, 4), l)
    else ((l[ixS l x].2.2.length + xs.length, 0), l.set (ixS l x) (l[ixS l x].1, l[ixS l x].2.1, l[ixS l x].2.2 ++ xs))
  else ((0, 12), l)
def offT (l : List Se) (x : Int) : Int × Int := if h : ixS l x < l.length then (l[ixS l x].2.2.length, 0) else (0, 12)
def canT (l : List Se) (x : Int) : Int × List Se := if ixS l x < l.length then (0, l.eraseIdx (ixS l x)) else (12, l)
abbrev se0 : Se := (0, ⟨#[]⟩, [])
def finT (w : Int) (l : List Se) (x : Int) (id : List Int) : (Se × Int) × List Se :=
  if h : ixS l x < l.length then
    if cutR (sumM l[ixS l x].2.2) w = id then ((l[ixS l x], 0), l.eraseIdx (ixS l x)) else ((se0, 8), l)
  else ((se0, 12), l)
def staT (nx : Int) (l : List Se) (s : ByteArray) : (Int × Int) × (Int × List Se) :=
  if startE (strI s) l.length nx = 0 then ((nx, 0), (nx + 1, l ++ [(nx, s, [])])) else ((0, startE (strI s) l.length nx), (nx, l))
structure Gd (w nx : Int) (l : List Se) : Prop where
  w0 : 1 ≤ w
  w1 : w ≤ 32
  n0 : 1 ≤ nx
  n1 : nx ≤ 1048577
  srt : l.Pairwise (fun a c => a.1 < c.1)
  lt : ∀ s ∈ l, s.1 < nx
  bs : ∀ s ∈ l, s.2.2.length ≤ 4096
  len : l.length ≤ 8
theorem Gd.erase {w nx : Int} {l : List Se} (h : Gd w nx l) (i : Nat) : Gd w nx (l.eraseIdx i) where
  w0 := h.w0
  w1 := h.w1
  n0 := h.n0
  n1 := h.n1
  srt := h.srt.sublist (List.eraseIdx_sublist _ _)
  lt := fun s hs => h.lt s (List.mem_of_mem_eraseIdx hs)
  bs := fun s hs => h.bs s (List.mem_of_mem_eraseIdx hs)
  len := Nat.le_trans (List.length_eraseIdx_le ..) h.len
theorem Gd.can {w nx x : Int} {l : List Se} (h : Gd w nx l) : Gd w nx (canT l x).2 := by
  unfold canT; split
  · exact h.erase _
  · exact h
theorem Gd.fin {w nx x : Int} {l : List Se} {id : List Int} (h : Gd w nx l) : Gd w nx (finT w l x id).2 := by
  unfold finT; split
  · split
    · exact h.erase _
    · exact h
  · exact h
theorem Gd.sta {w nx : Int} {l : List Se} {s : ByteArray} (h : Gd w nx l) : Gd w (staT nx l s).2.1 (staT nx l s).2.2 := by
  unfold staT; split
  case isFalse => exact h
  case isTrue e =>
    unfold startE at e
    split at e
    · cases e
    split at e
    · cases e
    split at e
    · cases e
    refine ⟨h.w0, h.w1, by have := h.n0; dsimp only; omega, by dsimp only; omega, ?_, ?_, ?_, ?_⟩
    · dsimp only
      rw [List.pairwise_append]
      exact ⟨h.srt, by simp, fun a ha c hc => by simp at hc; subst hc; exact h.lt a ha⟩
    · intro a ha
      dsimp only
      rcases List.mem_append.1 ha with ha | ha
      · have := h.lt a ha; omega
      · simp at ha; subst ha; dsimp only; omega
    · intro a ha
      rcases List.mem_append.1 ha with ha | ha
      · exact h.bs a ha
      · simp at ha; subst ha; simp
    · dsimp only; rw [List.length_append, List.length_singleton]; omega
theorem Gd.set {w nx : Int} {l : List Se} (h : Gd w nx l) {i : Nat} (hi : i < l.length) {d : Se} (h1 : d.1 = l[i].1) (h2 : d.2.2.length ≤ 4096) : Gd w nx (l.set i d) := by
  refine ⟨h.w0, h.w1, h.n0, h.n1, ?_, ?_, ?_, by rw [List.length_set]; exact h.len⟩
  · have : (l.set i d).map (·.1) = l.map (·.1) := by
      rw [List.map_set, h1, ← List.getElem_map (fun s : Se => s.1) (h := by simpa using hi), List.set_getElem_self]
    have hp : (l.map (·.1)).Pairwise (· < ·) := List.pairwise_map.2 h.srt
    rw [← this] at hp
    exact List.pairwise_map.1 hp
  · intro s hs
    rcases List.mem_or_eq_of_mem_set hs with hs | rfl
    · exact h.lt s hs
    · rw [h1]; exact h.lt _ (List.getElem_mem hi)
  · intro s hs
    rcases List.mem_or_eq_of_mem_set hs with hs | rfl
    · exact h.bs s hs
    · exact h2
theorem Gd.wr {w nx x off : Int} {l : List Se} {xs : List Int} (h : Gd w nx l) : Gd w nx (wrT l x off xs).2 := by
  unfold wrT; split
  · split
    · exact h
    split
    · exact h
    refine h.set (by assumption) rfl ?_
    dsimp only; rw [List.length_append]; omega
  · exact h
end Go.Proofs.Ytjfileaidgknjaa
/- Uploads, part twenty-four: the program's calls at a table as anybody sees it. Conditions: none. -/
namespace Go.Proofs.Ytjfileaidgknjaa
open Go Go.Eng Go.RowKit

def upX (g : Nat) (w nx : Int) (l : List Se) (k : Nat) : SP :=
  exP (S := Option Addr × Nat × List Us) (fun s => s.2.2.map Us.se = l ∧ ∀ u ∈ s.2.2, u.ps.length ≤ k) fun s => tbU g w nx s.1 s.2.1 l.length s.2.2 []
def rpX (g : Nat) (w nx : Int) (l : List Se) : SP :=
  exP (S := Option Addr × Nat × List Ds) (fun s => s.2.2.map Ds.se = l) fun s => tbR g w nx s.1 s.2.1 l.length s.2.2 []
def slX (v : Value) (l : List Se) : SP := exP (S := List Ds) (fun D => D.map Ds.se = l) fun D => [rSs v D, all (dsF D)]
theorem ent_up {F : List SP} {g : Nat} {w nx : Int} {A : Option Addr} {c k n : Nat} {L : List Us} {l : List Se} (h : L.map Us.se = l) (hk : ∀ u ∈ L, u.ps.length ≤ k) (hn : n = l.length) : Ent (tbU g w nx A c n L F) (upX g w nx l k :: F) := by
  subst hn
  exact ent_pack (p := fun s : Option Addr × Nat × List Us => s.2.2.map Us.se = l ∧ ∀ u ∈ s.2.2, u.ps.length ≤ k) (G := fun s => tbU g w nx s.1 s.2.1 l.length s.2.2 []) (A, c, L) ⟨h, hk⟩
theorem ent_rp {F : List SP} {g : Nat} {w nx : Int} {A : Option Addr} {c n : Nat} {D : List Ds} {l : List Se} (h : D.map Ds.se = l) (hn : n = l.length) : Ent (tbR g w nx A c n D F) (rpX g w nx l :: F) := by
  subst hn
  exact ent_pack (p := fun s : Option Addr × Nat × List Ds => s.2.2.map Ds.se = l) (G := fun s => tbR g w nx s.1 s.2.1 l.length s.2.2 []) (A, c, D) h
theorem ent_slX {F : List SP} {v : Value} {D : List Ds} {l : List Se} (h : D.map Ds.se = l) : Ent (rSs v D :: all (dsF D) :: F) (slX v l :: F) :=
  ent_pack (p := fun D : List Ds => D.map Ds.se = l) (G := fun D => [rSs v D, all (dsF D)]) D h
theorem wrT_1 {l : List Se} {x off : Int} {xs : List Int} (h : ixS l x < l.length) {d : Se} (hd : d = l[ixS l x]) (h1 : off ≠ (d.2.2.length : Int)) : wrT l x off xs = (((d.2.2.length : Int), 13), l) := by
  subst hd; rw [wrT, dif_pos h, if_pos h1]
theorem wrT_2 {l : List Se} {x off : Int} {xs : List Int} (h : ixS l x < l.length) {d : Se} (hd : d = l[ixS l x]) (h1 : ¬ off ≠ (d.2.2.length : Int)) (h2 : (4096 : Int) < d.2.2.length + xs.length) : wrT l x off xs = (((d.2.2.length : Int), 4), l) := by
  subst hd; rw [wrT, dif_pos h, if_neg h1, if_pos h2]
theorem wrT_3 {l : List Se} {x off : Int} {xs : List Int} (h : ixS l x < l.length) {d : Se} (hd : d = l[ixS l x]) (h1 : ¬ off ≠ (d.2.2.length : Int)) (h2 : ¬ (4096 : Int) < d.2.2.length + xs.length) : wrT l x off xs = (((d.2.2.length : Int) + xs.length, 0), l.set (ixS l x) (d.1, d.2.1, d.2.2 ++ xs)) := by
  subst hd; rw [wrT, dif_pos h, if_neg h1, if_neg h2]
theorem wrT_0 {l : List Se} {x off : Int} {xs : List Int} (h : ¬ ixS l x < l.length) : wrT l x off xs = ((0, 12), l) := by rw [wrT, dif_neg h]
theorem finT_1 {w : Int} {l : List Se} {x : Int} {id : List Int} (h : ixS l x < l.length) {d : Se} (hd : d = l[ixS l x]) (h1 : cutR (sumM d.2.2) w = id) : finT w l x id = ((d, 0), l.eraseIdx (ixS l x)) := by
  subst hd; rw [finT, dif_pos h, if_pos h1]
theorem finT_2 {w : Int} {l : List Se} {x : Int} {id : List Int} (h : ixS l x < l.length) {d : Se} (hd : d = l[ixS l x]) (h1 : ¬ cutR (sumM d.2.2) w = id) : finT w l x id = ((se0, 8), l) := by
  subst hd; rw [finT, dif_pos h, if_neg h1]
theorem finT_0 {w : Int} {l : List Se} {x : Int} {id : List Int} (h : ¬ ixS l x < l.length) : finT w l x id = ((se0, 12), l) := by rw [finT, dif_neg h]
theorem set_map {L : List Us} {i : Nat} {u : Us} {d : Se} (h : u.se = d) : (L.set i u).map Us.se = (L.map Us.se).set i d := by rw [List.map_set, h]
section
variable {b : World} {F : List SP} {g : Nat} {w nx : Int} {l : List Se} {k : Nat}
theorem up_srt {L : List Us} (h : (L.map Us.se).Pairwise (fun a c : Se => a.1 < c.1)) : L.Pairwise (fun a c => a.n < c.n) := List.pairwise_map (f := Us.se) (R := fun a c : Se => a.1 < c.1) |>.1 h
theorem up_no {L : List Us} {x : Int} (h : ∀ s ∈ L.map Us.se, s.1 ≠ x) : ∀ u ∈ L, u.n ≠ x := fun u hu => h u.se (List.mem_map_of_mem hu)
theorem uNext_X (hg : Gd w nx l) : SC Try.prog n_p_upload_Table_Next [.pointer (some ⟨g, 0, none⟩)] b (upX g w nx l k :: F) (fun v F' => v = .int .i64 nx ∧ F' = upX g w nx l k :: F) := by
  have hw : w ≠ 0 := by have := hg.w0; omega
  refine SC.opn ?_
  rintro ⟨A, c, L⟩ ⟨h, hp⟩
  refine (uNext_S hw).out ?_
  rintro v F' ⟨rfl, rfl⟩
  exact ⟨_, ent_up h hp rfl, rfl, rfl⟩
theorem uOffset_X (hg : Gd w nx l) {x : Int} : SC Try.prog n_p_upload_Table_Offset [.pointer (some ⟨g, 0, none⟩), .int .i64 x] b (upX g w nx l k :: F) (fun v F' => v = .tuple ⟨[.int .i64 (offT l x).1, .int .i64 (offT l x).2]⟩ ∧ F' = upX g w nx l k :: F) := by
  have hw : w ≠ 0 := by have := hg.w0; omega
  refine SC.opn ?_
  rintro ⟨A, c, L⟩ ⟨h, hp⟩
  dsimp only at h hp
  have hL : L.length = l.length := by rw [← h, List.length_map]
  have h8 := hg.len
  have hs := up_srt (h ▸ hg.srt)
  by_cases hi : ixS l x < l.length
  · have hx := ixS_at hi
    have e : L[ixS l x].se = l[ixS l x] := by simp only [← h, List.getElem_map]
    rw [offT, dif_pos hi, ← e]
    refine (uOffset_yes hw hL (by omega) hs (i := ixS l x) (by omega) ((congrArg Prod.fst e).trans hx)).out ?_
    rintro v F' ⟨rfl, rfl⟩
    exact ⟨_, ent_up h hp rfl, rfl, rfl⟩
  · rw [offT, dif_neg hi]
    refine (uOffset_no hw hL (by omega) hs (up_no (h ▸ ixS_no hi))).out ?_
    rintro v F' ⟨rfl, rfl⟩
    exact ⟨_, ent_up h hp rfl, rfl, rfl⟩
theorem er_map {L : List Us} {i : Nat} : (L.eraseIdx i).map Us.se = (L.map Us.se).eraseIdx i := by
  rw [List.eraseIdx_eq_take_drop_succ, List.eraseIdx_eq_take_drop_succ, List.map_append, List.map_take, List.map_drop]
theorem uCancel_X (hg : Gd w nx l) {x : Int} : SC Try.prog n_p_upload_Table_Cancel [.pointer (some ⟨g, 0, none⟩), .int .i64 x] b (upX g w nx l k :: F) (fun v F' => v = .int .i64 (canT l x).1 ∧ F' = upX g w nx (canT l x).2 k :: F) := by
  have hw : w ≠ 0 := by have := hg.w0; omega
  refine SC.opn ?_
  rintro ⟨A, c, L⟩ ⟨h, hp⟩
  dsimp only at h hp
  have hL : L.length = l.length := by rw [← h, List.length_map]
  have h8 := hg.len
  have hs := up_srt (h ▸ hg.srt)
  by_cases hi : ixS l x < l.length
  · have hx := ixS_at hi
    have e : L[ixS l x].se = l[ixS l x] := by simp only [← h, List.getElem_map]
    rw [canT, if_pos hi]
    refine (uCancel_yes hw hL (by omega) hs (i := ixS l x) (by omega) ((congrArg Prod.fst e).trans hx)).out ?_
    rintro v F' ⟨rfl, rfl⟩
    exact ⟨_, ent_up (by rw [er_map, h]) (fun u hu => hp u (List.mem_of_mem_eraseIdx hu)) (by rw [List.length_eraseIdx_of_lt hi]), rfl, rfl⟩
  · rw [canT, if_neg hi]
    refine (uCancel_no hw hL (by omega) hs (up_no (h ▸ ixS_no hi))).out ?_
    rintro v F' ⟨rfl, rfl⟩
    exact ⟨_, ent_up h hp rfl, rfl, rfl⟩
theorem uWrite_X (hg : Gd w nx l) {x off : Int} {vb : Value} {xs : List Int} (hb : ∀ w, Sat b F w → VL (Value.int .u8) w vb xs) (hxl : xs.length ≤ 1000000) (hk : k < 100000) :
    SC Try.prog n_p_upload_Table_Write [.pointer (some ⟨g, 0, none⟩), .int .i64 x, .int .i64 off, vb] b (upX g w nx l k :: F)
      (fun v F' => v = .tuple ⟨[.int .i64 (wrT l x off xs).1.1, .int .i64 (wrT l x off xs).1.2]⟩ ∧ F' = upX g w nx (wrT l x off xs).2 (k + 1) :: F) := by
  have hw : w ≠ 0 := by have := hg.w0; omega
  refine SC.opn ?_
  rintro ⟨A, c, L⟩ ⟨h, hp⟩
  dsimp only at h hp
  have hL : L.length = l.length := by rw [← h, List.length_map]
  have h8 := hg.len
  have hs := up_srt (h ▸ hg.srt)
  have hp' : ∀ u ∈ L, u.ps.length ≤ k + 1 := fun u hu => Nat.le_succ_of_le (hp u hu)
  by_cases hi : ixS l x < l.length
  · have hx := ixS_at hi
    have e : L[ixS l x].se = l[ixS l x] := by simp only [← h, List.getElem_map]
    have hbl := hg.bs _ (List.getElem_mem hi)
    have hpl := hp _ (List.getElem_mem (show ixS l x < L.length by omega))
    rw [← e] at hbl
    refine (uWrite_yes hb hxl hw hL (by omega) hs (i := ixS l x) (by omega) ((congrArg Prod.fst e).trans hx) hbl (by omega)).out ?_
    intro v F' hR
    by_cases h1 : off ≠ (L[ixS l x].b.length : Int)
    · rw [if_pos h1] at hR
      obtain ⟨rfl, rfl⟩ := hR
      rw [wrT_1 hi e h1]
      exact ⟨_, ent_up h hp' rfl, rfl, rfl⟩
    rw [if_neg h1] at hR
    by_cases h2 : (4096 : Int) < L[ixS l x].b.length + xs.length
    · rw [if_pos h2] at hR
      obtain ⟨rfl, rfl⟩ := hR
      rw [wrT_2 hi e h1 h2]
      exact ⟨_, ent_up h hp' rfl, rfl, rfl⟩
    rw [if_neg h2] at hR
    obtain ⟨rfl, u', hG, rfl⟩ := hR
    rw [wrT_3 hi e h1 h2]
    refine ⟨_, ent_up (l := l.set (ixS l x) (L[ixS l x].se.1, L[ixS l x].se.2.1, L[ixS l x].se.2.2 ++ xs)) (by rw [List.map_set, h, show u'.se = (L[ixS l x].se.1, L[ixS l x].se.2.1, L[ixS l x].se.2.2 ++ xs) from by simp only [Us.se, hG.n, hG.r, hG.b]]) (fun u hu => ?_) (by rw [List.length_set]), rfl, rfl⟩
    rcases List.mem_or_eq_of_mem_set hu with hu | rfl
    · exact hp' u hu
    · rw [hG.ps]; omega
  · rw [wrT_0 hi]
    refine (uWrite_no hb hw hL (by omega) hs (up_no (h ▸ ixS_no hi))).out ?_
    rintro v F' ⟨rfl, rfl⟩
    exact ⟨_, ent_up h hp' rfl, rfl, rfl⟩
theorem uStart_X (hg : Gd w nx l) {s : ByteArray} : SC Try.prog n_p_upload_Table_Start [.pointer (some ⟨g, 0, none⟩), .string s] b (upX g w nx l k :: F)
    (fun v F' => v = .tuple ⟨[.int .i64 (staT nx l s).1.1, .int .i64 (staT nx l s).1.2]⟩ ∧ F' = upX g w (staT nx l s).2.1 (staT nx l s).2.2 k :: F) := by
  have hw : w ≠ 0 := by have := hg.w0; omega
  refine SC.opn ?_
  rintro ⟨A, c, L⟩ ⟨h, hp⟩
  dsimp only at h hp
  have hL : L.length = l.length := by rw [← h, List.length_map]
  have h8 := hg.len
  refine (uStart_S hw hL (by omega) (by have := hg.n0; omega)).out ?_
  intro v F' hR
  by_cases h1 : startE (strI s) l.length nx = 0
  · rw [if_pos h1] at hR
    obtain ⟨rfl, A', c', gu, rfl⟩ := hR
    rw [staT, if_pos h1]
    refine ⟨_, ent_up (l := l ++ [(nx, s, [])]) (k := k) (by rw [List.map_append, h]; rfl) (fun u hu => ?_) (by rw [List.length_append]; rfl), rfl, rfl⟩
    rcases List.mem_append.1 hu with hu | hu
    · exact hp u hu
    · rw [List.mem_singleton.1 hu]; exact Nat.zero_le _
  · rw [if_neg h1] at hR
    obtain ⟨rfl, rfl⟩ := hR
    rw [staT, if_neg h1]
    exact ⟨_, ent_up h hp rfl, rfl, rfl⟩
theorem uFinish_X (hg : Gd w nx l) {x : Int} {id : List Int} (hid : id.length = 32) (hk : k ≤ 100000) : SC Try.prog n_p_upload_Table_Finish [.pointer (some ⟨g, 0, none⟩), .int .i64 x, idV id] b (upX g w nx l k :: F)
    (fun v F' => ∃ bv, v = .tuple ⟨[.agg ⟨ssC (finT w l x id).1.1.1 (finT w l x id).1.1.2.1 bv⟩, .int .i64 (finT w l x id).1.2]⟩ ∧ F' = rB bv (finT w l x id).1.1.2.2 :: upX g w nx (finT w l x id).2 k :: F) := by
  have hw : w ≠ 0 := by have := hg.w0; omega
  refine SC.opn ?_
  rintro ⟨A, c, L⟩ ⟨h, hp⟩
  dsimp only at h hp
  have hL : L.length = l.length := by rw [← h, List.length_map]
  have h8 := hg.len
  have hs := up_srt (h ▸ hg.srt)
  by_cases hi : ixS l x < l.length
  · have hx := ixS_at hi
    have e : L[ixS l x].se = l[ixS l x] := by simp only [← h, List.getElem_map]
    have hbl := hg.bs _ (List.getElem_mem hi)
    have hpl := hp _ (List.getElem_mem (show ixS l x < L.length by omega))
    rw [← e] at hbl
    refine (uFinish_yes hid hw hL (by omega) hs (i := ixS l x) (by omega) ((congrArg Prod.fst e).trans hx) ⟨hbl, by omega⟩).out ?_
    intro v F' hR
    by_cases h1 : cutR (sumM L[ixS l x].b) w = id
    · rw [if_pos h1] at hR
      obtain ⟨bv, rfl, rfl⟩ := hR
      rw [finT_1 hi e h1]
      exact ⟨_, ent_cons (ent_up (by rw [er_map, h]) (fun u hu => hp u (List.mem_of_mem_eraseIdx hu)) (by rw [List.length_eraseIdx_of_lt hi])), bv, rfl, rfl⟩
    · rw [if_neg h1] at hR
      obtain ⟨rfl, rfl⟩ := hR
      rw [finT_2 hi e h1]
      exact ⟨_, (ent_row_nil t_uint8 1 rfl).trans (ent_cons (ent_up h hp rfl)), .slice none 0 0, rfl, rfl⟩
  · rw [finT_0 hi]
    refine (uFinish_no hid hw hL (by omega) hs (up_no (h ▸ ixS_no hi))).out ?_
    rintro v F' ⟨rfl, rfl⟩
    exact ⟨_, (ent_row_nil t_uint8 1 rfl).trans (ent_cons (ent_up h hp rfl)), .slice none 0 0, rfl, rfl⟩
theorem uList_X (hg : Gd w nx l) (hk : k ≤ 100000) : SC Try.prog n_p_upload_Table_List [.pointer (some ⟨g, 0, none⟩)] b (upX g w nx l k :: F) (fun v F' => F' = slX v l :: upX g w nx l k :: F) := by
  have hw : w ≠ 0 := by have := hg.w0; omega
  refine SC.opn ?_
  rintro ⟨A, c, L⟩ ⟨h, hp⟩
  dsimp only at h hp
  have hL : L.length = l.length := by rw [← h, List.length_map]
  have h8 := hg.len
  refine (uList_S hw hL (by omega) (fun u hu => ⟨?_, Nat.le_trans (hp u hu) hk⟩)).out ?_
  · exact hg.bs u.se (h ▸ List.mem_map_of_mem hu)
  rintro v F' ⟨D, hD, rfl⟩
  exact ⟨_, (ent_slX (hD.trans h)).trans (ent_cons (ent_up h hp rfl)), rfl⟩
end
end Go.Proofs.Ytjfileaidgknjaa
/- Uploads, part twenty-five: the document's calls at a table as anybody sees it. Conditions: none. -/
namespace Go.Proofs.Ytjfileaidgknjaa
open Go Go.Eng Go.RowKit

section
variable {b : World} {F : List SP} {g : Nat} {w nx : Int} {l : List Se} {k : Nat}
theorem at_ix {D : List Ds} {x : Int} (h : D.map Ds.se = l) : At D l.length x (ixS l x) := by
  subst h
  refine ⟨ixS_le _ _, fun j hj hlt => ?_, fun hi => ?_⟩
  · have := ixS_lt (l := D.map Ds.se) (x := x) (by simpa using hj) hlt
    simpa [Ds.se] using this
  · have := ixS_at (l := D.map Ds.se) (x := x) (by simpa using hi)
    simpa [Ds.se] using this
theorem er_mapD {D : List Ds} {i : Nat} : (D.eraseIdx i).map Ds.se = (D.map Ds.se).eraseIdx i := by
  rw [List.eraseIdx_eq_take_drop_succ, List.eraseIdx_eq_take_drop_succ, List.map_append, List.map_take, List.map_drop]
theorem rOffset_X (hg : Gd w nx l) {x : Int} : SC Try.prog n_p_entrepotref09_Table_Offset [.pointer (some ⟨g, 0, none⟩), .int .i64 x] b (rpX g w nx l :: F) (fun v F' => v = .tuple ⟨[.int .i64 (offT l x).1, .int .i64 (offT l x).2]⟩ ∧ F' = rpX g w nx l :: F) := by
  refine SC.opn ?_
  rintro ⟨A, c, D⟩ h
  dsimp only at h
  have hL : D.length = l.length := by rw [← h, List.length_map]
  have h8 := hg.len
  refine (rOffset_S hL (by omega) (at_ix h)).out ?_
  rintro v F' ⟨hR, rfl⟩
  by_cases hi : ixS l x < l.length
  · have e : D[ixS l x].se = l[ixS l x] := by simp only [← h, List.getElem_map]
    rw [dif_pos (by omega)] at hR
    rw [offT, dif_pos hi, ← e]
    exact ⟨_, ent_rp h rfl, hR, rfl⟩
  · rw [dif_neg (by omega)] at hR
    rw [offT, dif_neg hi]
    exact ⟨_, ent_rp h rfl, hR, rfl⟩
theorem rCancel_X (hg : Gd w nx l) {x : Int} : SC Try.prog n_p_entrepotref09_Table_Cancel [.pointer (some ⟨g, 0, none⟩), .int .i64 x] b (rpX g w nx l :: F) (fun v F' => v = .int .i64 (canT l x).1 ∧ F' = rpX g w nx (canT l x).2 :: F) := by
  refine SC.opn ?_
  rintro ⟨A, c, D⟩ h
  dsimp only at h
  have hL : D.length = l.length := by rw [← h, List.length_map]
  have h8 := hg.len
  refine (rCancel_S hL (by omega) (at_ix h)).out ?_
  intro v F' hR
  by_cases hi : ixS l x < l.length
  · rw [if_pos hi] at hR
    obtain ⟨rfl, A', c', rfl⟩ := hR
    rw [canT, if_pos hi]
    exact ⟨_, ent_rp (by rw [er_mapD, h]) (by rw [List.length_eraseIdx_of_lt hi]), rfl, rfl⟩
  · rw [if_neg hi] at hR
    obtain ⟨rfl, rfl⟩ := hR
    rw [canT, if_neg hi]
    exact ⟨_, ent_rp h rfl, rfl, rfl⟩
theorem rWrite_X (hg : Gd w nx l) {x off : Int} {vb : Value} {xs : List Int} (hb : ∀ w, Sat b F w → VL (Value.int .u8) w vb xs) (hxl : xs.length ≤ 1000000) :
    SC Try.prog n_p_entrepotref09_Table_Write [.pointer (some ⟨g, 0, none⟩), .int .i64 x, .int .i64 off, vb] b (rpX g w nx l :: F)
      (fun v F' => v = .tuple ⟨[.int .i64 (wrT l x off xs).1.1, .int .i64 (wrT l x off xs).1.2]⟩ ∧ F' = rpX g w nx (wrT l x off xs).2 :: F) := by
  refine SC.opn ?_
  rintro ⟨A, c, D⟩ h
  dsimp only at h
  have hL : D.length = l.length := by rw [← h, List.length_map]
  have h8 := hg.len
  by_cases hi : ixS l x < l.length
  · have e : D[ixS l x].se = l[ixS l x] := by simp only [← h, List.getElem_map]
    have hbl := hg.bs _ (List.getElem_mem hi)
    rw [← e] at hbl
    refine (rWrite_yes hb hxl hL (by omega) (at_ix h) (by omega) hbl).out ?_
    intro v F' hR
    by_cases h1 : off ≠ (D[ixS l x].b.length : Int)
    · rw [if_pos h1] at hR
      obtain ⟨rfl, rfl⟩ := hR
      rw [wrT_1 hi e h1]
      exact ⟨_, ent_rp h rfl, rfl, rfl⟩
    rw [if_neg h1] at hR
    by_cases h2 : (4096 : Int) < D[ixS l x].b.length + xs.length
    · rw [if_pos h2] at hR
      obtain ⟨rfl, rfl⟩ := hR
      rw [wrT_2 hi e h1 h2]
      exact ⟨_, ent_rp h rfl, rfl, rfl⟩
    rw [if_neg h2] at hR
    obtain ⟨rfl, bv', rfl⟩ := hR
    rw [wrT_3 hi e h1 h2]
    exact ⟨_, ent_rp (l := l.set (ixS l x) (D[ixS l x].se.1, D[ixS l x].se.2.1, D[ixS l x].se.2.2 ++ xs)) (by rw [List.map_set, h]; rfl) (by rw [List.length_set]), rfl, rfl⟩
  · rw [wrT_0 hi]
    refine (rWrite_no hL (by omega) (at_ix h) (by omega)).out ?_
    rintro v F' ⟨rfl, rfl⟩
    exact ⟨_, ent_rp h rfl, rfl, rfl⟩
theorem rStart_X (hg : Gd w nx l) {s : ByteArray} : SC Try.prog n_p_entrepotref09_Table_Start [.pointer (some ⟨g, 0, none⟩), .string s] b (rpX g w nx l :: F)
    (fun v F' => v = .tuple ⟨[.int .i64 (staT nx l s).1.1, .int .i64 (staT nx l s).1.2]⟩ ∧ F' = rpX g w (staT nx l s).2.1 (staT nx l s).2.2 :: F) := by
  refine SC.opn ?_
  rintro ⟨A, c, D⟩ h
  dsimp only at h
  have hL : D.length = l.length := by rw [← h, List.length_map]
  have h8 := hg.len
  refine (rStart_S hL (by omega) (by have := hg.n0; omega)).out ?_
  intro v F' hR
  by_cases h1 : startE (strI s) l.length nx = 0
  · rw [if_pos h1] at hR
    obtain ⟨rfl, A', c', rfl⟩ := hR
    rw [staT, if_pos h1]
    exact ⟨_, ent_rp (l := l ++ [(nx, s, [])]) (by rw [List.map_append, h]; rfl) (by rw [List.length_append]; rfl), rfl, rfl⟩
  · rw [if_neg h1] at hR
    obtain ⟨rfl, rfl⟩ := hR
    rw [staT, if_neg h1]
    exact ⟨_, ent_rp h rfl, rfl, rfl⟩
theorem rFinish_X (hg : Gd w nx l) {x : Int} {id : List Int} (hid : id.length = 32) : SC Try.prog n_p_entrepotref09_Table_Finish [.pointer (some ⟨g, 0, none⟩), .int .i64 x, idV id] b (rpX g w nx l :: F)
    (fun v F' => ∃ bv, v = .tuple ⟨[.agg ⟨ssC (finT w l x id).1.1.1 (finT w l x id).1.1.2.1 bv⟩, .int .i64 (finT w l x id).1.2]⟩ ∧ F' = rB bv (finT w l x id).1.1.2.2 :: rpX g w nx (finT w l x id).2 :: F) := by
  refine SC.opn ?_
  rintro ⟨A, c, D⟩ h
  dsimp only at h
  have hL : D.length = l.length := by rw [← h, List.length_map]
  have h8 := hg.len
  by_cases hi : ixS l x < l.length
  · have e : D[ixS l x].se = l[ixS l x] := by simp only [← h, List.getElem_map]
    have hbl := hg.bs _ (List.getElem_mem hi)
    rw [← e] at hbl
    refine (rFinish_yes hid hL (by omega) (at_ix h) (by omega) hbl).out ?_
    intro v F' hR
    by_cases h1 : cutR (sumM D[ixS l x].b) w = id
    · rw [if_pos h1] at hR
      obtain ⟨rfl, A', c', rfl⟩ := hR
      rw [finT_1 hi e h1]
      exact ⟨_, ent_cons (ent_rp (by rw [er_mapD, h]) (by rw [List.length_eraseIdx_of_lt hi])), _, rfl, rfl⟩
    · rw [if_neg h1] at hR
      obtain ⟨rfl, rfl⟩ := hR
      rw [finT_2 hi e h1]
      exact ⟨_, (ent_row_nil t_uint8 1 rfl).trans (ent_cons (ent_rp h rfl)), .slice none 0 0, rfl, rfl⟩
  · rw [finT_0 hi]
    refine (rFinish_no hid hL (by omega) (at_ix h) (by omega)).out ?_
    rintro v F' ⟨rfl, rfl⟩
    exact ⟨_, (ent_row_nil t_uint8 1 rfl).trans (ent_cons (ent_rp h rfl)), .slice none 0 0, rfl, rfl⟩
theorem rList_X (hg : Gd w nx l) : SC Try.prog n_p_entrepotref09_Table_List [.pointer (some ⟨g, 0, none⟩)] b (rpX g w nx l :: F) (fun v F' => F' = slX v l :: rpX g w nx l :: F) := by
  refine SC.opn ?_
  rintro ⟨A, c, D⟩ h
  dsimp only at h
  have hL : D.length = l.length := by rw [← h, List.length_map]
  have h8 := hg.len
  refine (rList_S hL (by omega) (fun d hd => ?_)).out ?_
  · exact hg.bs d.se (h ▸ List.mem_map_of_mem hd)
  rintro v F' ⟨D', hD, rfl⟩
  exact ⟨_, (ent_slX (hD.trans h)).trans (ent_cons (ent_rp h rfl)), rfl⟩

/-! ## Lists of sessions, hidden -/
theorem ent_get {F : List SP} {j : Nat} {A : SP} (hj : nth F j = some A) : Ent F [A] := fun h s => by
  obtain ⟨h1, l1, hA⟩ := s.get hj
  refine ⟨fun i => match i with
    | 0 => h1
    | _ + 1 => fun _ => none, fun i => ?_, fun i j hij => ?_, fun i B hB => ?_⟩
  · cases i with
    | zero => exact l1
    | succ i => exact fun _ _ e => by cases e
  · cases i with
    | zero =>
      cases j with
      | zero => exact absurd rfl hij
      | succ j => exact fun _ => .inr rfl
    | succ i => exact fun _ => .inl rfl
  · cases i with
    | zero => cases hB; exact hA
    | succ i => cases hB
theorem slX_at {v : Value} {j : Nat} (hj : nth F j = some (slX v l)) : ∀ w, Sat b F w → ∃ D : List Ds, D.map Ds.se = l ∧ SLs w v D := fun w H => by
  obtain ⟨D, hD, H'⟩ := exP_open (H.ent (ent_get hj))
  refine ⟨D, hD, ⟨(H'.oat (k := 0) rfl).sl, fun d hd => ?_⟩⟩
  obtain ⟨i, hi, rfl⟩ := List.mem_iff_getElem.1 hd
  exact dsF_vl (k := 1) rfl hi w H'
end
end Go.Proofs.Ytjfileaidgknjaa
/- Uploads, part twenty-six: acts; Long, digest. Conditions: none. -/
namespace Go.Proofs.Ytjfileaidgknjaa
open Go Go.Eng Go.RowKit

/-- What is asked of a table. -/
structure Ac where
  k : Int
  n : Int
  o : Int
  a : Int
  t : Int
  r : ByteArray
  bv : Value
  b : List Int
def acC (a : Ac) : List Value := [.int .i64 a.k, .int .i64 a.n, .int .i64 a.o, .int .i64 a.a, .int .u8 a.t, .string a.r, a.bv]
theorem acC_len : ∀ (l : List Ac), ∀ a ∈ l, (acC a).length = 7 := fun _ _ _ => rfl
structure LAc (W : World) (v : Value) (l : List Ac) : Prop where
  sl : SL W 7 v l.length (flC acC l)
  bs : ∀ a ∈ l, VL (Value.int .u8) W a.bv a.b
section
variable {b : World} {F : List SP} {g : Nat} {w nx : Int} {l : List Se}
theorem Long_S {va : Value} {L : List Ac} (hl : ∀ w, Sat b F w → LAc w va L) : SC Try.prog n_entrepotlaw09_Long [va] b F
    (fun v F' => ∃ r : Bool, (r = false → L.length ≤ 40 ∧ ∀ a ∈ L, a.b.length ≤ 5000) ∧ v = .bool r ∧ F' = F) := by
  refine enterS F_entrepotlaw09_Long rfl rfl rfl ?_
  refine sw_fact (fun w H => sl_form (hl w H).sl) ?_
  rintro ⟨A0, c0, rfl, q1, q2, q3, q4, _⟩
  (refine sw_seq ?_; refine sw_region ?_; refine so_1 rfl ?_; refine so_nil ?_; refine sn_then ?_; refine sw_seq ?_; refine sw_region ?_; refine so_1 rfl ?_; refine so_nil ?_; refine sn_then ?_; (iterate 2 refine sw_seq ?_); refine sw_region ?_; refine so_1 rfl ?_; refine so_nil ?_; refine sn_then ?_; refine sw_block ?_)
  refine sw_loop (S := Nat × Int) (fun s => [(0, .slice A0 L.length c0), (3, .int .i64 s.2), (4, .int .i64 s.1)]) (fun _ => F) (fun s => s.1 ≤ L.length ∧ s.1 ≤ 41 ∧ 0 ≤ s.2 ∧ s.2 ≤ 5000 * s.1 ∧ ∀ a ∈ L.take s.1, a.b.length ≤ 5000) (fun s => L.length - s.1) (0, 0)
    ⟨rfl, rfl, rfl, trivial⟩ (Ent.refl _) ⟨Nat.zero_le _, Nat.zero_le _, by decide, by decide, by simp⟩ ?_
  rintro ⟨i, s⟩ ⟨hi, hi41, hs0, hs1, hbs⟩
  dsimp only at hi hi41 hs0 hs1 hbs ⊢
  ((iterate 2 refine sw_seq ?_); refine sw_region ?_; (iterate 5 refine so_1 rfl ?_))
  have fin : ∀ r : Bool, (r = false → L.length ≤ 40 ∧ ∀ a ∈ L, a.b.length ≤ 5000) → ∃ r' : Bool, (r' = false → L.length ≤ 40 ∧ ∀ a ∈ L, a.b.length ≤ 5000) ∧ Value.bool r = .bool r' ∧ F = F := fun r h => ⟨r, h, rfl, rfl⟩
  by_cases h1 : i < L.length
  · refine so_know 9 (.bool true) rfl (congrArg Value.bool (decide_eq_true (by omega))) ?_
    ((iterate 3 refine so_1 rfl ?_); refine so_nil ?_; refine sn_then ?_)
    refine sw_if rfl (fun h2 => ?_) (fun h2 => ?_)
    · obtain ⟨gg, oo, rfl⟩ := q4 (by omega)
      have hc : ∀ w, Sat b F w → ∀ j, j < 7 → w.cell? ⟨gg, oo + i * 7 + j, none⟩ = (acC L[i])[j]? := fun w H j hj => fl_cell (hl w H).sl (acC_len L) h1 hj
      have hvl : ∀ w, Sat b F w → VL (Value.int .u8) w L[i].bv L[i].b := fun w H => (hl w H).bs _ (List.getElem_mem h1)
      have htk : L.take (i + 1) = L.take i ++ [L[i]] := List.take_succ_eq_append_getElem h1
      generalize L[i] = a at *
      obtain ⟨ak, an, ao, aa, at', ar, av, ab⟩ := a
      (refine sw_skip ?_; refine sn_then ?_; refine sw_seq ?_; refine sw_block ?_; (iterate 2 refine sw_seq ?_); refine sw_region ?_; (iterate 2 refine so_1 rfl ?_); refine so_2 rfl (by omega) ?_; refine so_1 rfl ?_)
      refine so_fact (fun w H => (hvl w H).form) ?_
      rintro ⟨A7, c7, hv, _, _, _, _⟩
      dsimp only at hv
      subst hv
      refine so_rd rfl (fun w H => ex_load rfl rfl rfl (by rw [mulz_eq, Int.toNat_natCast]; exact hc w H 6 (by decide))) rfl ?_
      ((iterate 3 refine so_1 rfl ?_))
      by_cases h3 : (5000 : Int) < ab.length
      · refine so_know 22 (.bool true) rfl (congrArg Value.bool (decide_eq_true h3)) ?_
        ((iterate 8 refine so_1 rfl ?_); refine so_nil ?_; refine sn_then ?_; refine sw_cond_t rfl ?_; refine sw_seq ?_; refine sw_region ?_; refine so_1 rfl ?_; refine so_nil ?_; refine sn_then ?_; refine sw_ret ?_; refine sn_then_ret ?_; refine sn_block_ret ?_; refine sn_then_ret ?_; refine sn_loop_ret ?_; refine sn_block_ret ?_; refine sn_then_ret ?_)
        refine sn_ret rfl (.tmp rfl .nil) (Ent.refl _) ?_
        exact fin true (fun h => by cases h)
      refine so_know 22 (.bool false) rfl (congrArg Value.bool (decide_eq_false h3)) ?_
      ((iterate 2 refine so_1 rfl ?_); refine so_2 rfl (by omega) ?_; refine so_1 rfl ?_)
      refine so_rd rfl (fun w H => ex_load rfl rfl rfl (by rw [mulz_eq, Int.toNat_natCast]; exact hc w H 5 (by decide))) rfl ?_
      ((iterate 3 refine so_1 rfl ?_); refine so_nil ?_; refine sn_then ?_)
      refine sw_if rfl (fun h4 => ?_) (fun h4 => ?_)
      · (refine sw_seq ?_; refine sw_region ?_; refine so_1 rfl ?_; refine so_nil ?_; refine sn_then ?_; refine sw_ret ?_; refine sn_then_ret ?_; refine sn_block_ret ?_; refine sn_then_ret ?_; refine sn_loop_ret ?_; refine sn_block_ret ?_; refine sn_then_ret ?_)
        refine sn_ret rfl (.tmp rfl .nil) (Ent.refl _) ?_
        exact fin true (fun h => by cases h)
      (refine sw_skip ?_; refine sn_then ?_; refine sw_region ?_; (iterate 3 refine so_1 rfl ?_); refine so_2 rfl (by omega) ?_; refine so_1 rfl ?_)
      refine so_rd rfl (fun w H => ex_load rfl rfl rfl (by rw [mulz_eq, Int.toNat_natCast]; exact hc w H 6 (by decide))) rfl ?_
      (refine so_1 rfl ?_; refine so_2 rfl (by (unfold I64; omega)) ?_; refine so_1 rfl ?_; refine so_nil ?_; refine sn_block ?_; refine sn_then ?_; refine sw_region ?_; refine so_1 rfl ?_; refine so_2 rfl (by (unfold I64; omega)) ?_; refine so_1 rfl ?_; refine so_nil ?_)
      refine sn_round (i + 1, s + ab.length) ⟨rfl, rfl, rfl, trivial⟩ (Ent.refl _) ⟨h1, by dsimp only; omega, by dsimp only; omega, by dsimp only; omega, ?_⟩ (by dsimp only; omega)
      intro a ha
      dsimp only at ha
      rw [htk] at ha
      rcases List.mem_append.1 ha with ha | ha
      · exact hbs a ha
      · rw [List.mem_singleton.1 ha]; dsimp only; omega
    · (refine sw_exit ?_; refine sn_then_exit ?_; refine sn_loop_exit ?_; refine sn_block_exit ?_; refine sn_then ?_; refine sw_seq ?_; refine sw_region ?_; (iterate 4 refine so_1 rfl ?_))
      refine so_know 42 (.bool true) rfl (congrArg Value.bool (decide_eq_true (by omega))) ?_
      ((iterate 4 refine so_1 rfl ?_); refine so_nil ?_; refine sn_then ?_; refine sw_ret ?_)
      refine sn_ret rfl (.tmp rfl .nil) (Ent.refl _) ?_
      exact fin true (fun h => by cases h)
  · refine so_know 9 (.bool false) rfl (congrArg Value.bool (decide_eq_false (by omega))) ?_
    ((iterate 3 refine so_1 rfl ?_); refine so_nil ?_; refine sn_then ?_; refine sw_cond_f rfl ?_; refine sw_exit ?_; refine sn_then_exit ?_; refine sn_loop_exit ?_; refine sn_block_exit ?_; refine sn_then ?_; refine sw_seq ?_; refine sw_region ?_; (iterate 4 refine so_1 rfl ?_))
    by_cases h5 : (40 : Int) < L.length
    · refine so_know 42 (.bool true) rfl (congrArg Value.bool (decide_eq_true h5)) ?_
      ((iterate 4 refine so_1 rfl ?_); refine so_nil ?_; refine sn_then ?_; refine sw_ret ?_)
      refine sn_ret rfl (.tmp rfl .nil) (Ent.refl _) ?_
      exact fin true (fun h => by cases h)
    refine so_know 42 (.bool false) rfl (congrArg Value.bool (decide_eq_false h5)) ?_
    ((iterate 4 refine so_1 rfl ?_); refine so_nil ?_; refine sn_then ?_; refine sw_ret ?_)
    refine sn_ret rfl (.tmp rfl .nil) (Ent.refl _) ?_
    refine fin _ (fun _ => ⟨by omega, ?_⟩)
    rwa [show i = L.length by omega, List.take_length] at hbs
theorem digest_S (hg : Gd w nx l) {a : Ac} (hv : ∀ w, Sat b F w → VL (Value.int .u8) w a.bv a.b) : SC Try.prog n_entrepotlaw09_digest [.pointer (some ⟨g, 0, none⟩), .agg ⟨acC a⟩] b (rpX g w nx l :: F) (fun v F' => ∃ id : List Int, id.length = 32 ∧ v = idV id ∧ F' = rpX g w nx l :: F) := by
  obtain ⟨ak, an, ao, aa, at', ar, av, ab⟩ := a
  refine enterS F_entrepotlaw09_digest rfl rfl rfl ?_
  refine sw_fact (fun w H => (hv w (H.ent (ent_keep 1 [] rfl rfl))).form) ?_
  rintro ⟨bA, bc, hbv, _⟩
  dsimp only at hbv
  subst hbv
  (refine sw_seq ?_; refine sw_region ?_)
  refine so_box rfl rfl rfl rfl rfl fun g3 => ?_
  skip
  refine so_new rfl rfl rfl rfl rfl fun g4 => ?_
  (refine so_nil ?_; refine sn_then ?_; refine sw_seq ?_; refine sw_region ?_; refine so_1 rfl ?_; refine so_nil ?_; refine sn_then ?_; refine sw_seq ?_; refine sw_region ?_; refine so_1 rfl ?_)
  refine so_call rfl rfl rfl ((rList_X hg).ent (ent_keep 3 [2, 0, 1] rfl rfl)) ?_
  rintro v F' rfl
  refine so_opn ?_
  intro D hD
  have hDl : D.length = l.length := by rw [← hD, List.length_map]
  have h8 := hg.len
  have hbs : ∀ d ∈ D, d.b.length ≤ 4096 := fun d hd => hg.bs d.se (hD ▸ List.mem_map_of_mem hd)
  show SO _ _ _ _ _ _ _ _ _ (rSs v D :: all (dsF D) :: rpX g w nx l :: _)
  refine so_fact (fun w H => (H.oat (k := 0) rfl).form) ?_
  rintro ⟨A0, c0, rfl, q1, q2, q3⟩
  (refine so_1 rfl ?_; refine so_nil ?_; refine sn_then ?_; (iterate 2 refine sw_seq ?_); refine sw_region ?_; refine so_1 rfl ?_; refine so_nil ?_; refine sn_then ?_; refine sw_block ?_)
  refine sw_loop (S := Nat × Value) (fun s => [(0, .pointer (some ⟨g, 0, none⟩)), (3, .pointer (some ⟨g3, 0, none⟩)), (4, .pointer (some ⟨g4, 0, none⟩)), (5, s.2), (6, .slice A0 D.length c0), (7, .int .i64 s.1)]) (fun _ => rSs (.slice A0 D.length c0) D :: all (dsF D) :: rpX g w nx l :: pt g4 t_api_ID (u8s (List.replicate 32 0)) :: pt g3 t_entrepotlaw09_Act (acC ⟨ak, an, ao, aa, at', ar, .slice bA ab.length bc, ab⟩) :: F) (fun s => s.1 ≤ D.length ∧ (s.2 = .slice none 0 0 ∨ ∃ j, ∃ hj : j < D.length, s.2 = D[j].bv)) (fun s => D.length - s.1) (0, .slice none 0 0)
    ⟨rfl, rfl, rfl, rfl, rfl, rfl, trivial⟩ (Ent.refl _) ⟨Nat.zero_le _, .inl rfl⟩ ?_
  rintro ⟨i, x⟩ ⟨hi, hx⟩
  dsimp only at hi hx ⊢
  ((iterate 2 refine sw_seq ?_); refine sw_region ?_; (iterate 4 refine so_1 rfl ?_); refine so_nil ?_; refine sn_then ?_)
  refine sw_if rfl (fun h1 => ?_) (fun h1 => ?_)
  · have hiD : i < D.length := by omega
    obtain ⟨gg, oo, rfl⟩ := q3 (by omega)
    (refine sw_skip ?_; refine sn_then ?_; refine sw_seq ?_; refine sw_block ?_; refine sw_seq ?_)
    refine sw_draw flo _ (by decide +kernel) (Ent.refl _) ?_
    ((iterate 2 refine sd_1 rfl (.inl rfl) ?_); refine sd_2 rfl rfl (by omega) ?_; refine sd_1 rfl (.inl rfl) ?_)
    refine sd_rd rfl (fun w H => ex_load rfl rfl rfl (by rw [mulz_eq, Int.toNat_natCast]; exact rSn_cell (k := 0) rfl rfl hiD (j := 0) (by decide) w H)) rfl rfl ?_
    (refine sd_1 rfl (.inl rfl) ?_; refine sd_l 4 rfl rfl rfl rfl ?_; refine sd_1 rfl (.inl rfl) ?_)
    refine sd_nil ?_
    (refine sn_then ?_)
    refine sw_if rfl (fun h2 => ?_) (fun h2 => ?_)
    · (refine sw_region ?_; (iterate 2 refine so_1 rfl ?_); refine so_2 rfl (by omega) ?_; refine so_1 rfl ?_)
      refine so_rd rfl (fun w H => ex_load rfl rfl rfl (by rw [mulz_eq, Int.toNat_natCast]; exact rSn_cell (k := 0) rfl rfl hiD (j := 2) (by decide) w H)) rfl ?_
      (refine so_1 rfl ?_; refine so_nil ?_; refine sn_block ?_; refine sn_then ?_; refine sw_region ?_; refine so_1 rfl ?_; refine so_2 rfl (by (unfold I64; omega)) ?_; refine so_1 rfl ?_; refine so_nil ?_)
      exact sn_round (i + 1, D[i].bv) ⟨rfl, rfl, rfl, rfl, rfl, rfl, trivial⟩ (Ent.refl _) ⟨hiD, .inr ⟨i, hiD, rfl⟩⟩ (by dsimp only; omega)
    · (refine sw_skip ?_; refine sn_block ?_; refine sn_then ?_; refine sw_region ?_; refine so_1 rfl ?_; refine so_2 rfl (by (unfold I64; omega)) ?_; refine so_1 rfl ?_; refine so_nil ?_)
      exact sn_round (i + 1, x) ⟨rfl, rfl, rfl, rfl, rfl, rfl, trivial⟩ (Ent.refl _) ⟨hiD, hx⟩ (by dsimp only; omega)
  obtain ⟨xs, hxl, hxv⟩ : ∃ xs : List Int, xs.length ≤ 4096 ∧ ∀ w', Sat b (rSs (.slice A0 D.length c0) D :: all (dsF D) :: rpX g w nx l :: pt g4 t_api_ID (u8s (List.replicate 32 0)) :: pt g3 t_entrepotlaw09_Act (acC ⟨ak, an, ao, aa, at', ar, .slice bA ab.length bc, ab⟩) :: F) w' → VL (Value.int .u8) w' x xs := by
    rcases hx with rfl | ⟨j, hj, rfl⟩
    · exact ⟨[], by simp, fun w _ => VL.nil _ w⟩
    · exact ⟨D[j].b, hbs _ (List.getElem_mem hj), fun w H => dsF_vl (k := 1) rfl hj w H⟩
  clear hx
  refine sw_fact (fun w H => (hxv w H).form) ?_
  rintro ⟨xA, xc, rfl, _, _, _, _⟩
  refine sw_ent (ent_keep 5 [2, 0, 1, 3, 4] rfl rfl) ?_
  refine sw_opn ?_
  rintro ⟨tA, tc, tD⟩ htD
  dsimp only at htD
  show SW _ _ _ _ _ _ _ _ (tbR g w nx tA tc l.length tD (rSs (.slice A0 D.length c0) D :: all (dsF D) :: pt g4 t_api_ID (u8s (List.replicate 32 0)) :: pt g3 t_entrepotlaw09_Act (acC ⟨ak, an, ao, aa, at', ar, .slice bA ab.length bc, ab⟩) :: F))
  have hcl := cutR_len (sumM xs) w (sumM_len xs)
  have hOf : ∀ {b : World} {F : List SP} {vb : Value}, (∀ w, Sat b F w → VL (Value.int .u8) w vb xs) → SC Try.prog n_entrepotref02_Of [vb, .int .i64 w] b F (fun v F' => v = .tuple ⟨[idV (cutR (sumM xs) w), .int .i64 (cutE w)]⟩ ∧ F' = F) := fun h => by rw [← sum_RM]; exact refOf_S (by omega) h
  have hvx : ∀ w', Sat b (tbR g w nx tA tc l.length tD (rSs (.slice A0 D.length c0) D :: all (dsF D) :: pt g4 t_api_ID (u8s (List.replicate 32 0)) :: pt g3 t_entrepotlaw09_Act (acC ⟨ak, an, ao, aa, at', ar, .slice bA ab.length bc, ab⟩) :: F)) w' → VL (Value.int .u8) w' (.slice xA xs.length xc) xs := fun w' H => hxv w' (H.ent ((ent_rp (D := tD) (l := l) htD rfl).trans (ent_keep 5 [1, 2, 0, 3, 4] rfl rfl)))
  generalize cutR (sumM xs) w = own at *
  generalize cutE w = ce at *
  (refine sw_exit ?_; refine sn_then_exit ?_; refine sn_loop_exit ?_; refine sn_block_exit ?_; refine sn_then ?_; refine sw_seq ?_; refine sw_region ?_; (iterate 4 refine so_1 rfl ?_); refine so_l 0 rfl rfl rfl ?_)
  refine so_callE rfl rfl rfl (hOf hvx) ?_
  ((iterate 3 refine so_1 rfl ?_))
  refine so_new rfl rfl rfl rfl rfl fun g8 => ?_
  refine so_stW 0 rfl rfl rfl rfl rfl rfl rfl (by rw [u8s_len, hcl]; rfl) (u8s_one _) (by simp [hcl]) ?_
  (refine so_1 rfl ?_; refine so_nil ?_; refine sn_then ?_; refine sw_seq ?_; refine sw_region ?_; refine so_1 rfl ?_; refine so_l 7 rfl rfl rfl ?_)
  refine so_callE rfl rfl rfl (Pick_S (by unfold I64; omega)) ?_
  (refine so_1 rfl ?_; refine so_nil ?_; refine sn_then ?_; refine sw_seq ?_)
  obtain ⟨p, hp, hp32⟩ : ∃ p : Nat, (if (32 : Int) ≤ 0 then 0 else aa % 32) = (p : Int) ∧ p < 32 := ⟨(aa % 32).toNat, by rw [if_neg (by decide), Int.toNat_of_nonneg (by omega)], by omega⟩
  have hcell : ∀ {G : List SP} w', Sat b (pt g8 t_api_ID (u8s own) :: G) w' → w'.cell? ⟨g8, p, none⟩ = some (.int .u8 own[p]) := fun w' H => by
    rw [(H.blk (k := 0) rfl).cell p, u8s, List.getElem?_map, List.getElem?_eq_getElem (by omega)]; rfl
  generalize own[p] = o at *
  dsimp only
  rw [hp]
  refine sw_draw2 flo 8 (pt g8 t_api_ID (u8s own) :: pt g3 t_entrepotlaw09_Act (acC ⟨ak, an, ao, aa, at', ar, .slice bA ab.length bc, ab⟩) :: F) [] rfl (by decide +kernel) (ent_keep 8 [0, 7] rfl rfl) ?_
  ((iterate 2 refine sd_1 rfl (.inl rfl) ?_); refine sd_2 rfl rfl (by omega) ?_)
  refine sd_rd rfl (fun w H => ex_load rfl rfl rfl (by rw [mulz_eq, Int.toNat_natCast, Nat.mul_one, Nat.zero_add]; exact hcell w H)) rfl rfl ?_
  (refine sd_1 rfl (.inl rfl) ?_; refine sd_l 1 rfl rfl rfl rfl ?_; refine sd_1 rfl (.inl rfl) ?_; refine sd_2 rfl rfl (by omega) ?_)
  refine sd_nil (sn_draw2 rfl (ent_nil _) ?_)
  refine sd_st 0 rfl rfl rfl rfl rfl rfl rfl rfl rfl (stO_ok (r := u8s (own.set p _)) (by rw [mulz_eq]; simp [hcl]; omega) (by rw [mulz_eq, Int.toNat_natCast, Nat.mul_one, Nat.zero_add, u8s, u8s, List.map_set])) rfl (ent_nil _) ?_
  refine sd_nil ?_
  dsimp only
  obtain ⟨o2, ho2, hl2⟩ : ∃ o2, own.set p (bitv .xor .u8 o at') = o2 ∧ o2.length = 32 := ⟨_, rfl, by rw [List.length_set]; exact hcl⟩
  rw [ho2]
  (refine sn_then ?_; refine sw_seq ?_; refine sw_region ?_)
  refine so_ldA 0 rfl rfl rfl rfl rfl rfl (segID hl2) rfl ?_
  skip
  refine so_stW 6 rfl rfl rfl rfl rfl rfl rfl (by rw [u8s_len, hl2]; rfl) (u8s_one _) (by simp [hl2]) ?_
  (refine so_nil ?_; refine sn_then ?_; refine sw_ret ?_)
  refine sn_ret rfl (.whole 6 rfl rfl rfl rfl (by rw [u8s_len, hl2]; rfl) .nil) ((ent_keep 8 [1, 2, 3] rfl rfl).trans (ent_rp htD rfl)) ?_
  exact ⟨_, hl2, rfl, rfl⟩
end
end Go.Proofs.Ytjfileaidgknjaa
