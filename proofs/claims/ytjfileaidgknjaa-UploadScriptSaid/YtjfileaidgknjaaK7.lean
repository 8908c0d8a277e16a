/- Uploads, part twenty-seven: an act, answered alike. Conditions: none. -/
import Derived.Test.YtjfileaidgknjaaK6
import Derived.Test.YtjfileaidgknjaaK3
import Derived.LaidEqlPtr
namespace Go.Proofs.Ytjfileaidgknjaa
open Go Go.Eng Go.RowKit

section
variable {b : World} {F : List SP} {g g' k : Nat} {w nx : Int} {l : List Se}
set_option maxHeartbeats 1000000 in
theorem acted_S (hg : Gd w nx l) {a : Ac} (hv : ∀ w, Sat b F w → VL (Value.int .u8) w a.bv a.b) (hbl : a.b.length ≤ 5000) (hk : k < 100000) :
    SC Try.prog n_entrepotlaw09_acted [.pointer (some ⟨g, 0, none⟩), .pointer (some ⟨g', 0, none⟩), .agg ⟨acC a⟩] b (upX g w nx l k :: rpX g' w nx l :: F)
      (fun v F' => v = .bool true ∧ ∃ nx' l' k', Gd w nx' l' ∧ k' ≤ k + 1 ∧ F' = upX g w nx' l' k' :: rpX g' w nx' l' :: F) := by
  obtain ⟨ak, an, ao, aa, at', ar, av, ab⟩ := a
  dsimp only at hbl
  refine enterS F_entrepotlaw09_acted rfl rfl rfl ?_
  refine sw_fact (fun w H => (hv w (H.ent (ent_keep 2 [] rfl rfl))).form) ?_
  rintro ⟨bA, bc, hbv, _⟩
  dsimp only at hbv hv
  subst hbv
  (refine sw_seq ?_; refine sw_region ?_)
  refine so_box rfl rfl rfl rfl rfl fun g5 => ?_
  (refine so_1 rfl ?_; refine so_nil ?_; refine sn_then ?_; (iterate 2 refine sw_seq ?_); refine sw_region ?_; refine so_1 rfl ?_; refine so_l 0 rfl rfl rfl ?_; refine so_nil ?_; refine sn_then ?_; refine sw_block ?_; refine sw_seq ?_; refine sw_region ?_; (iterate 2 refine so_1 rfl ?_); refine so_nil ?_; refine sn_then ?_)
  refine sw_if rfl (fun h0 => ?_) (fun h0 => ?_)
  · (refine sw_seq ?_; refine sw_region ?_; (iterate 2 refine so_1 rfl ?_); refine so_l 0 rfl rfl rfl ?_)
    refine so_call rfl rfl rfl ((uStart_X hg).ent (ent_keep 3 [1, 0, 2] rfl rfl)) ?_
    rintro v F' ⟨rfl, rfl⟩
    ((iterate 5 refine so_1 rfl ?_); refine so_nil ?_; refine sn_then ?_; refine sw_seq ?_; refine sw_region ?_; (iterate 2 refine so_1 rfl ?_); refine so_l 1 rfl rfl rfl ?_)
    refine so_call rfl rfl rfl ((rStart_X hg).ent (ent_keep 3 [2, 0, 1] rfl rfl)) ?_
    rintro v F' ⟨rfl, rfl⟩
    ((iterate 5 refine so_1 rfl ?_); refine so_nil ?_; refine sn_then ?_; refine sw_seq ?_; refine sw_region ?_; (iterate 4 refine so_1 rfl ?_))
    refine so_know 47 (.bool true) rfl (congrArg Value.bool (decide_eq_true rfl)) ?_
    ((iterate 5 refine so_1 rfl ?_); refine so_nil ?_; refine sn_then ?_; refine sw_ret ?_; refine sn_block_ret ?_; refine sn_then_ret ?_)
    refine sn_ret rfl (.tmp rfl .nil) (ent_keep 3 [1, 0] rfl rfl) ?_
    exact ⟨congrArg Value.bool (decide_eq_true rfl), _, _, k, hg.sta, by omega, rfl⟩
  (refine sw_seq ?_; refine sw_region ?_; (iterate 2 refine so_1 rfl ?_); refine so_nil ?_; refine sn_then ?_)
  refine sw_if rfl (fun h1 => ?_) (fun h1 => ?_)
  · (refine sw_seq ?_; refine sw_region ?_; refine so_1 rfl ?_; refine so_l 0 rfl rfl rfl ?_)
    refine so_call rfl rfl rfl ((LentBytes_S (by omega) (fun w H => hv w (H.ent (ent_keep 3 [] rfl rfl))))) ?_
    rintro v F' ⟨A, c, rfl, rfl⟩
    (refine so_1 rfl ?_; refine so_nil ?_; refine sn_then ?_; refine sw_seq ?_; refine sw_region ?_; (iterate 2 refine so_1 rfl ?_); refine so_l 1 rfl rfl rfl ?_; refine so_1 rfl ?_; refine so_l 1 rfl rfl rfl ?_; refine so_1 rfl ?_)
    refine so_call rfl rfl rfl ((uWrite_X hg (rL_vl (k := 0) rfl) (by omega) hk).ent (ent_keep 4 [2, 0, 1, 3] rfl rfl)) ?_
    rintro v F' ⟨rfl, rfl⟩
    ((iterate 5 refine so_1 rfl ?_); refine so_nil ?_; refine sn_then ?_; refine sw_seq ?_; refine sw_region ?_; (iterate 2 refine so_1 rfl ?_); refine so_l 2 rfl rfl rfl ?_; refine so_1 rfl ?_; refine so_l 2 rfl rfl rfl ?_; refine so_1 rfl ?_; refine so_l 2 rfl rfl rfl ?_)
    refine so_call rfl rfl rfl ((rWrite_X hg (fun w H => hv w (H.ent (ent_keep 3 [] rfl rfl))) (by omega)).ent (ent_keep 4 [3, 0, 1, 2] rfl rfl)) ?_
    rintro v F' ⟨rfl, rfl⟩
    ((iterate 5 refine so_1 rfl ?_); refine so_nil ?_; refine sn_then ?_; refine sw_seq ?_; refine sw_region ?_; (iterate 4 refine so_1 rfl ?_))
    refine so_know 81 (.bool true) rfl (congrArg Value.bool (decide_eq_true rfl)) ?_
    ((iterate 5 refine so_1 rfl ?_))
    refine so_know 86 (.bool true) rfl (congrArg Value.bool (decide_eq_true rfl)) ?_
    ((iterate 2 refine so_1 rfl ?_); refine so_l 3 rfl rfl rfl ?_)
    refine so_callE rfl rfl rfl ((KeptBytes_S (by omega) (fun w H => hv w (H.ent (ent_keep 3 [] rfl rfl)))).at (ent_keep 4 [2, 0, 1, 3] rfl rfl) (ent_keep 4 [1, 2, 0, 3] rfl rfl)) ?_
    ((iterate 2 refine so_1 rfl ?_); refine so_nil ?_; refine sn_then ?_; refine sw_seq ?_; refine sw_region ?_; refine so_1 rfl ?_)
    refine so_ent ((ent_row_take (j := ab.length) (by omega) 2 rfl rfl).trans (ent_rB (l := ab) 2 rfl rfl (by simp [u8s]) rfl)) ?_
    refine so_call rfl rfl rfl ((OverBytes_S (by omega)).ent (ent_keep 4 [2, 0, 1, 3] rfl rfl)) ?_
    rintro _ _ ⟨l2, rfl⟩
    (refine so_nil ?_; refine sn_then ?_; refine sw_seq ?_; refine sw_region ?_; (iterate 2 refine so_1 rfl ?_); refine so_nil ?_; refine sn_then ?_; refine sw_ret ?_; refine sn_block_ret ?_; refine sn_then_ret ?_)
    refine sn_ret rfl (.tmp rfl .nil) (ent_keep 4 [2, 1] rfl rfl) ?_
    exact ⟨rfl, _, _, k + 1, hg.wr, by omega, rfl⟩
  (refine sw_seq ?_; refine sw_region ?_; (iterate 2 refine so_1 rfl ?_); refine so_nil ?_; refine sn_then ?_)
  refine sw_if rfl (fun h2 => ?_) (fun h2 => ?_)
  · (refine sw_seq ?_; refine sw_region ?_; refine so_1 rfl ?_; refine so_l 0 rfl rfl rfl ?_)
    refine so_call rfl rfl rfl ((digest_S hg (a := ⟨ak, an, ao, aa, at', ar, .slice bA ab.length bc, ab⟩) (fun w H => hv w (H.ent (ent_keep 2 [] rfl rfl)))).ent (ent_keep 3 [2, 0, 1] rfl rfl)) ?_
    rintro v F' ⟨id, hid, rfl, rfl⟩
    skip
    refine so_new rfl rfl rfl rfl rfl fun g17 => ?_
    refine so_stW 0 rfl rfl rfl rfl rfl rfl rfl (by rw [u8s_len, hid]; rfl) (u8s_one _) (by simp [hid]) ?_
    (refine so_nil ?_; refine sn_then ?_; refine sw_seq ?_; refine sw_region ?_; (iterate 2 refine so_1 rfl ?_); refine so_l 2 rfl rfl rfl ?_)
    refine so_ldA 0 rfl rfl rfl rfl rfl rfl (segID hid) rfl ?_
    have hfin : Gd w nx (finT w l an id).2 := hg.fin
    have hU := fun (b : World) (F : List SP) => uFinish_X (b := b) (F := F) (g := g) (k := k) hg (x := an) hid (by omega)
    have hR := fun (b : World) (F : List SP) => rFinish_X (b := b) (F := F) (g := g') hg (x := an) hid
    generalize finT w l an id = r at *
    obtain ⟨⟨⟨rn, rr, rb⟩, re⟩, rl⟩ := r
    dsimp only at hfin hU hR
    refine so_call rfl rfl rfl ((hU _ _).ent (ent_keep 4 [3, 0, 1, 2] rfl rfl)) ?_
    rintro v F' ⟨bv, rfl, rfl⟩
    refine so_fact (fun w H => (H.oat (k := 0) rfl).form) ?_
    rintro ⟨A7, c7, rfl, _, _, _⟩
    ((iterate 3 refine so_1 rfl ?_))
    refine so_new rfl rfl rfl rfl rfl fun g18 => ?_
    (refine so_s1 0 rfl rfl rfl rfl ?_; refine so_1 rfl ?_; refine so_nil ?_; refine sn_then ?_; refine sw_seq ?_; refine sw_region ?_; (iterate 2 refine so_1 rfl ?_); refine so_l 5 rfl rfl rfl ?_)
    refine so_ldA 3 rfl rfl rfl rfl rfl rfl (segID hid) rfl ?_
    refine so_call rfl rfl rfl ((hR _ _).ent (ent_keep 6 [4, 0, 1, 2, 3, 5] rfl rfl)) ?_
    rintro v F' ⟨bv, rfl, rfl⟩
    refine so_fact (fun w H => (H.oat (k := 0) rfl).form) ?_
    rintro ⟨A8, c8, rfl, _, _, _⟩
    ((iterate 3 refine so_1 rfl ?_))
    refine so_new rfl rfl rfl rfl rfl fun g20 => ?_
    (refine so_s1 0 rfl rfl rfl rfl ?_; refine so_1 rfl ?_; refine so_nil ?_; refine sn_then ?_; refine sw_seq ?_; refine sw_region ?_; refine so_l 3 rfl rfl rfl ?_; refine so_l 0 rfl rfl rfl ?_)
    refine so_callE rfl rfl rfl (SameSession_S (vlB (k := 4) rfl) (vlB (k := 1) rfl)) ?_
    ((iterate 6 refine so_1 rfl ?_); refine so_nil ?_; refine sn_then ?_; refine sw_ret ?_; refine sn_block_ret ?_; refine sn_then_ret ?_)
    refine sn_ret rfl (.tmp rfl .nil) (ent_keep 8 [5, 2] rfl rfl) ?_
    exact ⟨congrArg Value.bool (decide_eq_true rfl), _, _, k, hfin, by omega, rfl⟩
  (refine sw_seq ?_; refine sw_region ?_; (iterate 2 refine so_1 rfl ?_); refine so_nil ?_; refine sn_then ?_)
  refine sw_if rfl (fun h3 => ?_) (fun h3 => ?_)
  · (refine sw_seq ?_)
    refine sw_draw2 flo 9 (pt g5 t_entrepotlaw09_Act (acC ⟨ak, an, ao, aa, at', ar, .slice bA ab.length bc, ab⟩) :: F) [] rfl (by decide +kernel) (ent_keep 3 [0] rfl rfl) ?_
    ((iterate 2 refine sd_1 rfl (.inl rfl) ?_); refine sd_l 0 rfl rfl rfl rfl ?_)
    refine sd_call rfl rfl rfl rfl ((uCancel_X hg).ent (ent_keep 3 [1, 0, 2] rfl rfl)) ?_
    rintro v F' ⟨rfl, rfl⟩
    refine ⟨ent_keep 3 [1] rfl rfl, ?_⟩
    ((iterate 2 refine sd_1 rfl (.inl rfl) ?_); refine sd_l 0 rfl rfl rfl rfl ?_)
    refine sd_call rfl rfl rfl rfl ((rCancel_X hg).ent (ent_keep 3 [2, 0, 1] rfl rfl)) ?_
    rintro v F' ⟨rfl, rfl⟩
    refine ⟨ent_keep 3 [2] rfl rfl, ?_⟩
    (refine sd_1 rfl (.inl rfl) ?_)
    refine sd_nil (sn_draw2 rfl (ent_nil _) ?_)
    (refine sd_1 rfl (.inl rfl) ?_)
    refine sd_nil ?_
    (refine sn_then ?_; refine sw_ret ?_; refine sn_block_ret ?_; refine sn_then_ret ?_)
    refine sn_ret rfl (.tmp rfl .nil) (ent_keep 3 [1, 0] rfl rfl) ?_
    exact ⟨congrArg Value.bool (decide_eq_true rfl), _, _, k, hg.can, by omega, rfl⟩
  (refine sw_seq ?_; refine sw_region ?_; (iterate 2 refine so_1 rfl ?_); refine so_nil ?_; refine sn_then ?_)
  refine sw_if rfl (fun h4 => ?_) (fun h4 => ?_)
  · (refine sw_seq ?_; refine sw_region ?_; (iterate 2 refine so_1 rfl ?_); refine so_l 0 rfl rfl rfl ?_)
    refine so_call rfl rfl rfl ((uOffset_X hg).ent (ent_keep 3 [1, 0, 2] rfl rfl)) ?_
    rintro v F' ⟨rfl, rfl⟩
    ((iterate 5 refine so_1 rfl ?_); refine so_nil ?_; refine sn_then ?_; refine sw_seq ?_; refine sw_region ?_; (iterate 2 refine so_1 rfl ?_); refine so_l 1 rfl rfl rfl ?_)
    refine so_call rfl rfl rfl ((rOffset_X hg).ent (ent_keep 3 [2, 0, 1] rfl rfl)) ?_
    rintro v F' ⟨rfl, rfl⟩
    ((iterate 5 refine so_1 rfl ?_); refine so_nil ?_; refine sn_then ?_; refine sw_seq ?_; refine sw_region ?_; (iterate 4 refine so_1 rfl ?_))
    refine so_know 154 (.bool true) rfl (congrArg Value.bool (decide_eq_true rfl)) ?_
    ((iterate 5 refine so_1 rfl ?_); refine so_nil ?_; refine sn_then ?_; refine sw_ret ?_; refine sn_block_ret ?_; refine sn_then_ret ?_)
    refine sn_ret rfl (.tmp rfl .nil) (ent_keep 3 [1, 0] rfl rfl) ?_
    exact ⟨congrArg Value.bool (decide_eq_true rfl), _, _, k, hg, by omega, rfl⟩
  · (refine sw_skip ?_; refine sn_block ?_; refine sn_then ?_; refine sw_seq ?_; refine sw_region ?_; refine so_1 rfl ?_; refine so_nil ?_; refine sn_then ?_; refine sw_ret ?_)
    refine sn_ret rfl (.tmp rfl .nil) (ent_keep 3 [1, 2] rfl rfl) ?_
    exact ⟨rfl, _, _, k, hg, by omega, rfl⟩
end
end Go.Proofs.Ytjfileaidgknjaa
/- Uploads, part twenty-eight: the chapter's first line. Conditions: none. -/
namespace Go.Proofs.Ytjfileaidgknjaa
open Go Go.Eng Go.RowKit

section
variable {b : World} {F : List SP} {g k : Nat} {w nx : Int} {l : List Se}
theorem starts_T (hg : Gd w nx l) {s : ByteArray} {want err nx' : Int} {l' : List Se} (hr : staT nx l s = ((want, err), (nx', l'))) : SC Try.prog n_entrepotlaw09_starts [.pointer (some ⟨g, 0, none⟩), .string s, .int .i64 want, .int .i64 err] b (upX g w nx l k :: F) (fun v F' => v = .bool true ∧ F' = upX g w nx' l' k :: F) := by
  have hu := fun (b : World) (F : List SP) => uStart_X (b := b) (F := F) (g := g) (k := k) hg (s := s)
  rw [hr] at hu
  dsimp only at hu
  refine enterS F_entrepotlaw09_starts rfl rfl rfl ?_
  (refine sw_seq ?_; refine sw_region ?_; refine so_1 rfl ?_; refine so_nil ?_; refine sn_then ?_; refine sw_seq ?_; refine sw_region ?_; (iterate 2 refine so_1 rfl ?_))
  refine so_call rfl rfl rfl ((hu _ _)) ?_
  rintro v F' ⟨rfl, rfl⟩
  ((iterate 5 refine so_1 rfl ?_); refine so_nil ?_; refine sn_then ?_; refine sw_seq ?_; refine sw_region ?_; (iterate 4 refine so_1 rfl ?_))
  refine so_know 20 (.bool true) rfl (congrArg Value.bool (decide_eq_true rfl)) ?_
  ((iterate 5 refine so_1 rfl ?_); refine so_nil ?_; refine sn_then ?_; refine sw_ret ?_)
  refine sn_ret rfl (.tmp rfl .nil) (Ent.refl _) ?_
  exact ⟨congrArg Value.bool (decide_eq_true rfl), rfl⟩
theorem writes_T (hg : Gd w nx l) (hk : k < 100000) {n off : Int} {s : ByteArray} (hs : s.size ≤ 1000000) {want err : Int} {l' : List Se} (hr : wrT l n off (strI s) = ((want, err), l')) : SC Try.prog n_entrepotlaw09_writes [.pointer (some ⟨g, 0, none⟩), .int .i64 n, .int .i64 off, .string s, .int .i64 want, .int .i64 err] b (upX g w nx l k :: F) (fun v F' => v = .bool true ∧ F' = upX g w nx l' (k + 1) :: F) := by
  have hu := fun (b : World) (F : List SP) (vb : Value) (hb : ∀ w, Sat b F w → VL (Value.int .u8) w vb (strI s)) => uWrite_X (b := b) (F := F) (g := g) (k := k) hg (x := n) (off := off) hb (by rw [strI_length]; exact hs) hk
  rw [hr] at hu
  dsimp only at hu
  refine enterS F_entrepotlaw09_writes rfl rfl rfl ?_
  (refine sw_seq ?_; refine sw_region ?_; refine so_1 rfl ?_; refine so_nil ?_; refine sn_then ?_; refine sw_seq ?_; refine sw_region ?_; (iterate 4 refine so_1 rfl ?_))
  refine so_s2v rfl rfl rfl rfl rfl rfl rfl rfl (by omega) fun g20 c20 cs20 h20 => ?_
  refine so_call rfl rfl rfl ((hu _ _ _ (fun w H => h20 _ w H)).ent (ent_keep 2 [1, 0] rfl rfl)) ?_
  rintro v F' ⟨rfl, rfl⟩
  ((iterate 5 refine so_1 rfl ?_); refine so_nil ?_; refine sn_then ?_; refine sw_seq ?_; refine sw_region ?_; (iterate 4 refine so_1 rfl ?_))
  refine so_know 27 (.bool true) rfl (congrArg Value.bool (decide_eq_true rfl)) ?_
  ((iterate 5 refine so_1 rfl ?_); refine so_nil ?_; refine sn_then ?_; refine sw_ret ?_)
  refine sn_ret rfl (.tmp rfl .nil) (ent_keep 2 [0] rfl rfl) ?_
  exact ⟨congrArg Value.bool (decide_eq_true rfl), rfl⟩
def rS : ByteArray := ⟨#[114]⟩
theorem one_1 : staT 1 [] ⟨#[114]⟩ = ((1, 0), (2, [(1, rS, [])])) := by decide +kernel
theorem one_2 : staT 2 [(1, rS, [])] ⟨#[82]⟩ = ((0, 7), (2, [(1, rS, [])])) := by decide +kernel
theorem one_3 : wrT [(1, rS, [])] 1 0 (strI ⟨#[97]⟩) = ((1, 0), [(1, rS, [97])]) := by decide +kernel
theorem one_4 : wrT [(1, rS, [97])] 1 0 (strI ⟨#[98]⟩) = ((1, 13), [(1, rS, [97])]) := by decide +kernel
theorem one_5 : wrT [(1, rS, [97])] 1 1 (strI ⟨#[98]⟩) = ((2, 0), [(1, rS, [97, 98])]) := by decide +kernel
theorem gd_new (h : 1 ≤ w ∧ w ≤ 32) : Gd w 1 [] := ⟨h.1, h.2, by decide, by decide, List.Pairwise.nil, by simp, by simp, by simp⟩
theorem gd_one {nx : Int} {bs : List Int} (h : 1 ≤ w ∧ w ≤ 32) (hn : 2 ≤ nx ∧ nx ≤ 1048577) (hb : bs.length ≤ 4096) : Gd w nx [(1, rS, bs)] := ⟨h.1, h.2, by omega, by omega, List.pairwise_singleton _ _, by simp; omega, by simp; exact hb, by simp⟩
theorem uNew_X (h : 1 ≤ w ∧ w ≤ 32) : SC Try.prog n_upload_New [.int .i64 w] b F (fun v F' => ∃ g, v = .tuple ⟨[.pointer (some ⟨g, 0, none⟩), .int .i64 0]⟩ ∧ F' = upX g w 1 [] 0 :: F) := by
  refine (uNew_S h).out ?_
  rintro v F' ⟨g, A, c, rfl, rfl⟩
  exact ⟨_, ent_up (L := []) (l := []) rfl (by simp) rfl, g, rfl, rfl⟩
theorem rNew_X (h : 1 ≤ w ∧ w ≤ 32) : SC Try.prog n_entrepotref09_New [.int .i64 w] b F (fun v F' => ∃ g, v = .tuple ⟨[.pointer (some ⟨g, 0, none⟩), .int .i64 0]⟩ ∧ F' = rpX g w 1 [] :: F) := by
  refine (rNew_S h).out ?_
  rintro v F' ⟨g, A, c, rfl, rfl⟩
  exact ⟨_, ent_rp (D := []) (l := []) rfl rfl, g, rfl, rfl⟩
theorem one_S : SC Try.prog n_entrepotlaw09_one [] b F (fun v F' => ∃ g, v = .pointer (some ⟨g, 0, none⟩) ∧ F' = upX g 32 2 [(1, rS, [97, 98])] 3 :: F) := by
  have h32 : (1 : Int) ≤ 32 ∧ (32 : Int) ≤ 32 := by decide
  have h2 : (2 : Int) ≤ 2 ∧ (2 : Int) ≤ 1048577 := by decide
  refine enterS F_entrepotlaw09_one rfl rfl rfl ?_
  (refine sw_seq ?_; refine sw_region ?_; refine so_1 rfl ?_; refine so_nil ?_; refine sn_then ?_; refine sw_seq ?_; refine sw_region ?_)
  refine so_call rfl rfl rfl (uNew_X h32) ?_
  rintro v F' ⟨g, rfl, rfl⟩
  ((iterate 5 refine so_1 rfl ?_); refine so_nil ?_; refine sn_then ?_; (iterate 2 refine sw_seq ?_); refine sw_region ?_; (iterate 8 refine so_1 rfl ?_))
  refine so_call rfl rfl rfl (starts_T (gd_new h32) one_1) ?_
  rintro v F' ⟨rfl, rfl⟩
  ((iterate 4 refine so_1 rfl ?_))
  refine so_call rfl rfl rfl (starts_T (gd_one h32 h2 (by simp)) one_2) ?_
  rintro v F' ⟨rfl, rfl⟩
  ((iterate 4 refine so_1 rfl ?_))
  refine so_call rfl rfl rfl (writes_T (gd_one h32 h2 (by simp)) (by omega) (by decide) one_3) ?_
  rintro v F' ⟨rfl, rfl⟩
  ((iterate 4 refine so_1 rfl ?_))
  refine so_call rfl rfl rfl (writes_T (gd_one h32 h2 (by simp)) (by omega) (by decide) one_4) ?_
  rintro v F' ⟨rfl, rfl⟩
  ((iterate 4 refine so_1 rfl ?_))
  refine so_call rfl rfl rfl (writes_T (gd_one h32 h2 (by simp)) (by omega) (by decide) one_5) ?_
  rintro v F' ⟨rfl, rfl⟩
  ((iterate 2 refine so_1 rfl ?_); refine so_nil ?_; refine sn_then ?_; refine sw_cond_f rfl ?_; refine sw_skip ?_; refine sn_then ?_; refine sw_seq ?_; refine sw_region ?_; (iterate 2 refine so_1 rfl ?_); refine so_nil ?_; refine sn_then ?_; refine sw_ret ?_)
  refine sn_ret rfl (.tmp rfl .nil) (Ent.refl _) ?_
  exact ⟨g, rfl, rfl⟩
theorem awake_U : SC Try.prog n_entrepotlaw09_awake [] b F (fun v F' => v = .bool true ∧ F' = F) := by
  have h32 : (1 : Int) ≤ 32 ∧ (32 : Int) ≤ 32 := by decide
  have h2 : (2 : Int) ≤ 2 ∧ (2 : Int) ≤ 1048577 := by decide
  have hG := gd_one (nx := 2) (bs := [97, 98]) h32 h2 (by simp)
  have e1 : offT [(1, rS, [97, 98])] 1 = (2, 0) := by decide +kernel
  have e2 : offT [(1, rS, [97, 98])] 2 = (0, 12) := by decide +kernel
  have o1 := fun (b : World) (F : List SP) (g : Nat) => uOffset_X (b := b) (F := F) (g := g) (k := 3) hG (x := 1)
  have o2 := fun (b : World) (F : List SP) (g : Nat) => uOffset_X (b := b) (F := F) (g := g) (k := 3) hG (x := 2)
  rw [e1] at o1
  rw [e2] at o2
  refine enterS F_entrepotlaw09_awake rfl rfl rfl ?_
  (refine sw_seq ?_; refine sw_region ?_; refine so_1 rfl ?_; refine so_nil ?_; refine sn_then ?_; refine sw_seq ?_; refine sw_region ?_)
  refine so_call rfl rfl rfl (one_S) ?_
  rintro v F' ⟨g, rfl, rfl⟩
  (refine so_1 rfl ?_; refine so_nil ?_; refine sn_then ?_; (iterate 2 refine sw_seq ?_); refine sw_region ?_; (iterate 2 refine so_1 rfl ?_); refine so_nil ?_; refine sn_then ?_; refine sw_cond_f rfl ?_; refine sw_skip ?_; refine sn_then ?_; refine sw_seq ?_; refine sw_region ?_; refine so_1 rfl ?_)
  refine so_callE rfl rfl rfl (o1 _ _ _) ?_
  ((iterate 5 refine so_1 rfl ?_); refine so_nil ?_; refine sn_then ?_; refine sw_seq ?_; refine sw_region ?_; refine so_1 rfl ?_)
  refine so_callE rfl rfl rfl (o2 _ _ _) ?_
  ((iterate 5 refine so_1 rfl ?_); refine so_nil ?_; refine sn_then ?_; refine sw_seq ?_; refine sw_region ?_; (iterate 12 refine so_1 rfl ?_))
  refine so_callE rfl rfl rfl (uNext_X hG) ?_
  ((iterate 3 refine so_1 rfl ?_); refine so_nil ?_; refine sn_then ?_; refine sw_ret ?_)
  refine sn_ret rfl (.tmp rfl .nil) (ent_keep 1 [] rfl rfl) ?_
  exact ⟨rfl, rfl⟩
end
end Go.Proofs.Ytjfileaidgknjaa
/- Uploads, part twenty-nine: the chapter's examples. Conditions: none. -/
namespace Go.Proofs.Ytjfileaidgknjaa
open Go Go.Eng Go.RowKit

theorem kn_1 : ¬ cutR (sumM [97, 98]) 32 = List.replicate 32 0 := by decide +kernel
theorem kn_2 : cutE 32 = 0 := by decide +kernel
theorem kn_3 : staT 2 [] ⟨#[114]⟩ = ((2, 0), (3, [(2, rS, [])])) := by decide +kernel
theorem kn_4 : canT [(2, rS, [])] 2 = (0, []) := by decide +kernel
theorem kn_5 : sesOk 1 0 [(1, rS, [])] = false := by decide +kernel
section
variable {b : World} {F : List SP}
set_option maxHeartbeats 2000000 in
theorem Known_S : SC Try.prog n_entrepotlaw09_UploadKnown [] b F (fun v F' => v = .bool true ∧ F' = F) := by
  have h32 : (1 : Int) ≤ 32 ∧ (32 : Int) ≤ 32 := by decide
  have h2 : (2 : Int) ≤ 2 ∧ (2 : Int) ≤ 1048577 := by decide
  have hG := gd_one (nx := 2) (bs := [97, 98]) h32 h2 (by simp)
  have hG2 : Gd 32 2 [] := by have := hG.erase 0; exact this
  have hG3 : Gd 32 3 [(2, rS, [])] := ⟨by decide, by decide, by decide, by decide, List.pairwise_singleton _ _, by simp, by simp, by simp⟩
  have hG4 : Gd 32 3 [] := by have := hG3.erase 0; exact this
  have hlD := cutR_len (sumM [97, 98]) 32 (sumM_len [97, 98])
  have hne := kn_1
  have hOf : ∀ {b : World} {F : List SP} {vb : Value}, (∀ w, Sat b F w → VL (Value.int .u8) w vb [97, 98]) → SC Try.prog n_sha_Of [vb, .int .i64 32] b F (fun v F' => v = .tuple ⟨[idV (cutR (sumM [97, 98]) 32), .int .i64 0]⟩ ∧ F' = F) := fun h => by
    have := Of_S (w := 32) (by decide) h
    rwa [kn_2] at this
  have f1 : finT 32 [(1, rS, [97, 98])] 1 (List.replicate 32 0) = ((se0, 8), [(1, rS, [97, 98])]) := finT_2 (by decide) rfl hne
  have f2 : finT 32 [(1, rS, [97, 98])] 1 (cutR (sumM [97, 98]) 32) = (((1, rS, [97, 98]), 0), []) := finT_1 (by decide) rfl rfl
  have f3 : finT 32 [] 1 (cutR (sumM [97, 98]) 32) = ((se0, 12), []) := finT_0 (by decide)
  have u1 := fun (b : World) (F : List SP) (g : Nat) => uFinish_X (b := b) (F := F) (g := g) (k := 3) hG (x := 1) (id := List.replicate 32 0) rfl (by decide)
  have u2 := fun (b : World) (F : List SP) (g : Nat) => uFinish_X (b := b) (F := F) (g := g) (k := 3) hG (x := 1) hlD (by decide)
  have u3 := fun (b : World) (F : List SP) (g : Nat) => uFinish_X (b := b) (F := F) (g := g) (k := 3) hG2 (x := 1) hlD (by decide)
  rw [f1] at u1
  rw [f2] at u2
  rw [f3] at u3
  clear f1 f2 f3 hne
  generalize cutR (sumM [97, 98]) 32 = d at *
  dsimp only at u1 u2 u3
  have u4 := fun (b : World) (F : List SP) (g : Nat) => uCancel_X (b := b) (F := F) (g := g) (k := 3) hG3 (x := 2)
  rw [kn_4] at u4
  dsimp only at u4
  refine enterS F_entrepotlaw09_UploadKnown rfl rfl rfl ?_
  (refine sw_seq ?_; refine sw_region ?_; refine so_1 rfl ?_; refine so_nil ?_; refine sn_then ?_; refine sw_seq ?_; refine sw_region ?_)
  refine so_call rfl rfl rfl (one_S) ?_
  rintro v F' ⟨g, rfl, rfl⟩
  (refine so_1 rfl ?_; refine so_nil ?_; refine sn_then ?_; refine sw_seq ?_; refine sw_region ?_)
  refine so_lit ([97, 98].map (Value.int .u8)) rfl rfl rfl rfl rfl rfl rfl rfl rfl fun gl => ?_
  refine so_mark 0 rfl rfl rfl rfl rfl rfl rfl rfl ?_
  refine so_callE rfl rfl rfl (hOf (fun w H => H.ptz_vl (k := 0) rfl rfl (Nat.le_refl _) (by omega) (fun j hj => rfl))) ?_
  ((iterate 3 refine so_1 rfl ?_))
  refine so_new rfl rfl rfl rfl rfl fun g2 => ?_
  refine so_stW 0 rfl rfl rfl rfl rfl rfl rfl (by rw [u8s_len, hlD]; rfl) (u8s_one _) (by simp [hlD]) ?_
  (refine so_1 rfl ?_; refine so_nil ?_; refine sn_then ?_; (iterate 2 refine sw_seq ?_); refine sw_region ?_; (iterate 6 refine so_1 rfl ?_); refine so_nil ?_; refine sn_then ?_; refine sw_cond_f rfl ?_; refine sw_skip ?_; refine sn_then ?_; refine sw_seq ?_; refine sw_region ?_; (iterate 2 refine so_1 rfl ?_))
  refine so_ent (ent_keep 3 [0, 2] rfl rfl) ?_
  refine so_call rfl rfl rfl ((u1 _ _ g).ent (ent_keep 2 [1, 0] rfl rfl)) ?_
  rintro v F' ⟨bv, rfl, rfl⟩
  refine so_fact (fun w H => (H.oat (k := 0) rfl).form) ?_
  rintro ⟨A1, c1, rfl, _, _, _⟩
  refine so_ent (ent_keep 3 [1, 2] rfl rfl) ?_
  ((iterate 3 refine so_1 rfl ?_))
  refine so_new rfl rfl rfl rfl rfl fun g4 => ?_
  (refine so_s1 0 rfl rfl rfl rfl ?_; refine so_1 rfl ?_; refine so_nil ?_; refine sn_then ?_; refine sw_seq ?_; refine sw_region ?_; refine so_1 rfl ?_)
  refine so_ldA 2 rfl rfl rfl rfl rfl rfl (segID hlD) rfl ?_
  refine so_ent (ent_keep 3 [1, 2] rfl rfl) ?_
  refine so_call rfl rfl rfl (u2 _ _ g) ?_
  rintro v F' ⟨bv, rfl, rfl⟩
  refine so_fact (fun w H => (H.oat (k := 0) rfl).form) ?_
  rintro ⟨A2, c2, rfl, _, _, _⟩
  ((iterate 3 refine so_1 rfl ?_))
  refine so_new rfl rfl rfl rfl rfl fun g6 => ?_
  (refine so_s1 0 rfl rfl rfl rfl ?_; refine so_1 rfl ?_; refine so_nil ?_; refine sn_then ?_; refine sw_seq ?_; refine sw_region ?_; refine so_1 rfl ?_)
  refine so_ldA 3 rfl rfl rfl rfl rfl rfl (segID hlD) rfl ?_
  refine so_call rfl rfl rfl ((u3 _ _ g).ent (ent_keep 4 [2, 0, 1, 3] rfl rfl)) ?_
  rintro v F' ⟨bv, rfl, rfl⟩
  refine so_fact (fun w H => (H.oat (k := 0) rfl).form) ?_
  rintro ⟨A3, c3, rfl, _, _, _⟩
  refine so_ent (ent_keep 5 [1, 2, 3, 4] rfl rfl) ?_
  ((iterate 3 refine so_1 rfl ?_))
  refine so_new rfl rfl rfl rfl rfl fun g8 => ?_
  (refine so_s1 0 rfl rfl rfl rfl ?_; refine so_1 rfl ?_; refine so_nil ?_; refine sn_then ?_; refine sw_seq ?_; refine sw_region ?_)
  refine so_ent (ent_keep 5 [1, 2, 3, 4] rfl rfl) ?_
  refine so_callE rfl rfl rfl (uNew_bad (by decide)) ?_
  ((iterate 5 refine so_1 rfl ?_); refine so_nil ?_; refine sn_then ?_; refine sw_seq ?_; refine sw_region ?_)
  refine so_callE rfl rfl rfl (uNew_bad (by decide)) ?_
  ((iterate 5 refine so_1 rfl ?_); refine so_nil ?_; refine sn_then ?_; refine sw_seq ?_; refine sw_region ?_; refine so_1 rfl ?_)
  refine so_lit1 rfl rfl rfl rfl rfl rfl rfl rfl (by decide) fun gl3 => ?_
  have hbad := fun (b : World) (F : List SP) (va : Value) (hl : ∀ w, Sat b F w → SLs w va [⟨1, rS, .slice none 0 0, []⟩]) => uLoad_S (b := b) (F := F) (w := 32) (nx := 1) ⟨by decide, by decide, by decide, by decide⟩ hl
  have hnot : ¬ ((([⟨1, rS, .slice none 0 0, []⟩] : List Ds).length ≤ 8) ∧ sesOk 1 0 (([⟨1, rS, .slice none 0 0, []⟩] : List Ds).map Ds.se) = true) := fun h => by
    have := h.2
    rw [show ([⟨1, rS, .slice none 0 0, []⟩] : List Ds).map Ds.se = [(1, rS, [])] from rfl, kn_5] at this
    cases this
  simp only [if_neg hnot] at hbad
  refine so_callE rfl rfl rfl (hbad _ _ _ (fun w H => ⟨(H.blk (k := 0) rfl).sl rfl (by decide), fun d hd => by rw [List.mem_singleton.1 hd]; exact VL.nil _ w⟩)) ?_
  ((iterate 5 refine so_1 rfl ?_); refine so_nil ?_; refine sn_then ?_; refine sw_seq ?_; refine sw_region ?_)
  refine so_ent (ent_keep 5 [1, 2, 3, 4] rfl rfl) ?_
  refine so_callE rfl rfl rfl (awake_U) ?_
  ((iterate 9 refine so_1 rfl ?_); refine so_l 1 rfl rfl rfl ?_)
  refine so_lit ([97, 98].map (Value.int .u8)) rfl rfl rfl rfl rfl rfl rfl rfl rfl fun gl4 => ?_
  refine so_mark 0 rfl rfl rfl rfl rfl rfl rfl rfl ?_
  (refine so_1 rfl ?_)
  refine so_callE rfl rfl rfl (SameSession_S (vlB (k := 3) rfl) (fun w H => H.ptz_vl (k := 0) rfl rfl (Nat.le_refl _) (by omega) (fun j hj => rfl))) ?_
  ((iterate 7 refine so_1 rfl ?_))
  refine so_ent (ent_keep 5 [1] rfl rfl) ?_
  refine so_call rfl rfl rfl (starts_T hG2 kn_3) ?_
  rintro v F' ⟨rfl, rfl⟩
  ((iterate 3 refine so_1 rfl ?_))
  refine so_call rfl rfl rfl (u4 _ _ g) ?_
  rintro v F' ⟨rfl, rfl⟩
  ((iterate 4 refine so_1 rfl ?_))
  refine so_call rfl rfl rfl (uList_X hG4 (by decide)) ?_
  rintro v F' rfl
  refine so_opn ?_
  intro D hD
  have hD0 : D = [] := by simpa using hD
  subst hD0
  refine so_fact (fun w H => (H.oat (k := 0) rfl).form) ?_
  rintro ⟨A9, c9, rfl, _, _, _⟩
  ((iterate 5 refine so_1 rfl ?_))
  refine so_callE rfl rfl rfl ((uNext_X hG4).at (ent_keep 3 [2, 0, 1] rfl rfl) (ent_keep 3 [1, 2, 0] rfl rfl)) ?_
  ((iterate 15 refine so_1 rfl ?_); refine so_nil ?_; refine sn_then ?_; refine sw_ret ?_)
  refine sn_ret rfl (.tmp rfl .nil) (ent_keep 3 [] rfl rfl) ?_
  exact ⟨rfl, rfl⟩
end
end Go.Proofs.Ytjfileaidgknjaa
/- Uploads, part thirty: UploadKnown, UploadScript. Conditions: none. -/
namespace Go.Proofs.Ytjfileaidgknjaa
open Go Go.Eng Go.RowKit Go.WideMaps

theorem walk_UploadKnown {W : World} : Calls Try.prog n_entrepotlaw09_UploadKnown #[] W (fun e w' => e = .returned (.bool true) ∧ Ext W w') := law_of (args := []) Known_S
abbrev rdAc : Rdg (Int × Int × Int × Int × Int × ByteArray × (Value × List Int)) := rdN 1 (rdI .i64) (rdN 1 (rdI .i64) (rdN 1 (rdI .i64) (rdN 1 (rdI .i64) (rdN 1 (rdI .u8) (rdN 1 rdS (rdL 1 (rdI .u8)))))))
def acOf (x : Int × Int × Int × Int × Int × ByteArray × (Value × List Int)) : Ac := ⟨x.1, x.2.1, x.2.2.1, x.2.2.2.1, x.2.2.2.2.1, x.2.2.2.2.2.1, x.2.2.2.2.2.2.1, x.2.2.2.2.2.2.2⟩
theorem lac_of_rd {W : World} {v : Value} {x : Value × List _} (h : rdL 7 rdAc W [v] x) : LAc W v (x.2.map acOf) := by
  obtain ⟨h1, h2, h3⟩ := rdL_flat (g := acOf) (f := acC) (p := fun a => VL (Value.int .u8) W a.bv a.b) (fun cs x hx => by
    obtain ⟨⟨hx1, _⟩, ⟨hx2, _⟩, ⟨hx3, _⟩, ⟨hx4, _⟩, ⟨hx5, _⟩, ⟨hx6, _⟩, hx7⟩ := hx
    obtain ⟨h1, h2, _⟩ := rdI_list hx7
    exact ⟨cut_eq hx1 (cut_eq hx2 (cut_eq hx3 (cut_eq hx4 (cut_eq hx5 (cut_eq hx6 h1))))), h2⟩) h
  simp only [List.cons.injEq, and_true] at h1
  subst h1
  exact ⟨h2, h3⟩
abbrev rdSe : Rdg (Int × ByteArray × (Value × List Int)) := rdN 1 (rdI .i64) (rdN 1 rdS (rdL 1 (rdI .u8)))
def dsOf (x : Int × ByteArray × (Value × List Int)) : Ds := ⟨x.1, x.2.1, x.2.2.1, x.2.2.2⟩
theorem sls_of_rd {W : World} {v : Value} {x : Value × List _} (h : rdL 3 rdSe W [v] x) : SLs W v (x.2.map dsOf) := by
  obtain ⟨h1, h2, h3⟩ := rdL_flat (g := dsOf) (f := dsC) (p := fun a => VL (Value.int .u8) W a.bv a.b) (fun cs x hx => by
    obtain ⟨⟨hx1, _⟩, ⟨hx6, _⟩, hx7⟩ := hx
    obtain ⟨h1, h2, _⟩ := rdI_list hx7
    exact ⟨cut_eq hx1 (cut_eq hx6 h1), h2⟩) h
  simp only [List.cons.injEq, and_true] at h1
  subst h1
  exact ⟨h2, h3⟩
theorem LAc.ext {w w' : World} {v : Value} {l : List Ac} (h : LAc w v l) (x : Ext w w') : LAc w' v l := ⟨h.sl.ext x, fun m hm => (h.bs m hm).ext x⟩
theorem SLs.ext {w w' : World} {v : Value} {l : List Ds} (h : SLs w v l) (x : Ext w w') : SLs w' v l := ⟨h.sl.ext x, fun m hm => (h.bs m hm).ext x⟩
theorem sls_at {b : World} {F : List SP} {v : Value} {D : List Ds} {j k : Nat} (h1 : nth F j = some (rSs v D)) (h2 : nth F k = some (all (dsF D))) : ∀ w, Sat b F w → SLs w v D := fun w H => ⟨(H.oat h1).sl, fun d hd => by
  obtain ⟨i, hi, rfl⟩ := List.mem_iff_getElem.1 hd
  exact dsF_vl h2 hi w H⟩
set_option maxRecDepth 20000 in
set_option maxHeartbeats 2000000 in
theorem walk_UploadScript {W : World} {n : Int} {v : Value} {L : List Ac} (h : LAc W v L) : Calls Try.prog n_entrepotlaw09_UploadScript #[.int .i64 n, v] W (fun e w' => e = .returned (.bool true) ∧ Ext W w') := by
  refine law_of (args := [.int .i64 n, v]) ?_
  have hl : ∀ {F : List SP} {k : Nat}, nth F k = some (Is W) → ∀ w, Sat W F w → LAc w v L := fun hk w H => h.ext (H.is hk)
  obtain ⟨A0, c0, rfl, _, _, _, k4, _⟩ := sl_form h.sl
  refine enterS F_entrepotlaw09_UploadScript rfl rfl rfl ?_
  (refine sw_seq ?_; refine sw_region ?_; refine so_1 rfl ?_; refine so_nil ?_; refine sn_then ?_; (iterate 2 refine sw_seq ?_); refine sw_region ?_; refine so_1 rfl ?_)
  refine so_call rfl rfl rfl (Long_S (L := L) (hl (k := 0) rfl)) ?_
  rintro _ _ ⟨q, hq, rfl, rfl⟩
  cases q with
  | true =>
    (refine so_nil ?_; refine sn_then ?_; refine sw_cond_t rfl ?_; refine sw_seq ?_; refine sw_region ?_)
    refine so_callE rfl rfl rfl (awake_U) ?_
    (refine so_1 rfl ?_; refine so_nil ?_; refine sn_then ?_; refine sw_ret ?_; refine sn_then_ret ?_)
    refine sn_ret rfl (.tmp rfl .nil) (Ent.refl _) ?_
    exact ⟨rfl, rfl⟩
  | false =>
  obtain ⟨hl40, hle⟩ := hq rfl
  (refine so_nil ?_; refine sn_then ?_; refine sw_cond_f rfl ?_; refine sw_skip ?_; refine sn_then ?_; refine sw_seq ?_; refine sw_region ?_; refine so_1 rfl ?_)
  by_cases hn : 1 ≤ n ∧ n ≤ 32
  case neg =>
    refine so_callE rfl rfl rfl ((uNew_bad hn)) ?_
    ((iterate 5 refine so_1 rfl ?_); refine so_nil ?_; refine sn_then ?_; refine sw_seq ?_; refine sw_region ?_; refine so_1 rfl ?_)
    refine so_callE rfl rfl rfl ((rNew_bad hn)) ?_
    ((iterate 5 refine so_1 rfl ?_); refine so_nil ?_; refine sn_then ?_; (iterate 2 refine sw_seq ?_); refine sw_region ?_; (iterate 10 refine so_1 rfl ?_); refine so_nil ?_; refine sn_then ?_; refine sw_cond_f rfl ?_; refine sw_skip ?_; refine sn_then ?_; (iterate 2 refine sw_seq ?_); refine sw_region ?_; refine so_1 rfl ?_; refine so_nil ?_; refine sn_then ?_; refine sw_block ?_)
    refine sw_loop (S := Unit) (fun _ => [(7, .pointer none)]) (fun _ => [Is W]) (fun _ => True) (fun _ => 0) () ⟨rfl, trivial⟩ (Ent.refl _) trivial ?_
    intro _ _
    ((iterate 2 refine sw_seq ?_); refine sw_region ?_; (iterate 8 refine so_1 rfl ?_); refine so_nil ?_; refine sn_then ?_; refine sw_cond_f rfl ?_; refine sw_exit ?_; refine sn_then_exit ?_; refine sn_loop_exit ?_; refine sn_block_exit ?_; refine sn_then ?_; refine sw_seq ?_; refine sw_region ?_)
    refine so_callE rfl rfl rfl (awake_U) ?_
    (refine so_1 rfl ?_; refine so_nil ?_; refine sn_then ?_; refine sw_ret ?_)
    refine sn_ret rfl (.tmp rfl .nil) (Ent.refl _) ?_
    exact ⟨rfl, rfl⟩
  refine so_call rfl rfl rfl (uNew_X hn) ?_
  rintro _ _ ⟨g, rfl, rfl⟩
  ((iterate 5 refine so_1 rfl ?_); refine so_nil ?_; refine sn_then ?_; refine sw_seq ?_; refine sw_region ?_; refine so_1 rfl ?_)
  refine so_call rfl rfl rfl (rNew_X hn) ?_
  rintro _ _ ⟨g', rfl, rfl⟩
  ((iterate 5 refine so_1 rfl ?_); refine so_nil ?_; refine sn_then ?_; (iterate 2 refine sw_seq ?_); refine sw_region ?_; (iterate 10 refine so_1 rfl ?_); refine so_nil ?_; refine sn_then ?_; refine sw_cond_f rfl ?_; refine sw_skip ?_; refine sn_then ?_; (iterate 2 refine sw_seq ?_); refine sw_region ?_; refine so_1 rfl ?_; refine so_nil ?_; refine sn_then ?_; refine sw_block ?_)
  refine sw_loop (S := Nat × Int × List Se × Nat) (fun s => [(1, .slice A0 L.length c0), (5, .pointer (some ⟨g, 0, none⟩)), (7, .pointer (some ⟨g', 0, none⟩)), (9, .int .i64 (s.1 : Int))]) (fun s => upX g n s.2.1 s.2.2.1 s.2.2.2 :: rpX g' n s.2.1 s.2.2.1 :: [Is W]) (fun s => s.1 ≤ L.length ∧ Gd n s.2.1 s.2.2.1 ∧ s.2.2.2 ≤ s.1) (fun s => L.length - s.1) (0, 1, [], 0) ⟨rfl, rfl, rfl, rfl, trivial⟩ (ent_keep 2 [1, 0] rfl rfl) ⟨Nat.zero_le _, gd_new hn, Nat.le_refl _⟩ ?_
  rintro ⟨i, nx, l, k⟩ ⟨hi, hg, hk⟩
  dsimp only at hi hg hk ⊢
  ((iterate 2 refine sw_seq ?_); refine sw_region ?_; (iterate 8 refine so_1 rfl ?_); refine so_nil ?_; refine sn_then ?_)
  refine sw_if rfl (fun h1 => ?_) (fun h1 => ?_)
  · have h1' : i < L.length := by omega
    obtain ⟨bk, off, rfl⟩ := k4 (by omega)
    have hmem := List.getElem_mem h1'
    have hc : ∀ {F : List SP} {k : Nat}, nth F k = some (Is W) → ∀ w, Sat W F w → ∀ j, j < 7 → w.cell? ⟨bk, off + i * 7 + j, none⟩ = (acC L[i])[j]? := fun hk w H j hj => fl_cell (hl hk w H).sl (acC_len L) h1' hj
    have hxv : ∀ {F : List SP} {k : Nat}, nth F k = some (Is W) → ∀ w, Sat W F w → VL (Value.int .u8) w L[i].bv L[i].b := fun hk w H => (hl hk w H).bs _ hmem
    have hxl := hle _ hmem
    generalize L[i] = x at *
    (refine sw_skip ?_; refine sn_then ?_; refine sw_seq ?_; refine sw_block ?_; (iterate 2 refine sw_seq ?_))
    refine sw_draw3 flo 9 [Is W] rfl (by decide +kernel) (ent_keep 2 [] rfl rfl) ?_
    ((iterate 4 refine sd_1 rfl (.inl rfl) ?_); refine sd_2 rfl rfl (by omega) ?_)
    refine sd_rd rfl (fun w H => ex_loadN (cs := acC x) rfl rfl rfl rfl (fun q hq => by rw [mulz_eq, Int.toNat_natCast]; exact hc (k := 0) rfl w H q hq)) rfl rfl ?_
    skip
    refine sd_call rfl rfl rfl rfl (acted_S (g := g) (g' := g') (k := k) hg (hxv (k := 0) rfl) hxl (by omega)) ?_
    rintro v F' ⟨rfl, nx', l', k', hg', hk', rfl⟩
    refine ⟨ent_keep 2 [] rfl rfl, ?_⟩
    ((iterate 2 refine sd_1 rfl (.inl rfl) ?_))
    refine sd_ent (ent_keep 2 [1, 0] rfl rfl) ?_
    refine sd_opn ?_
    rintro ⟨tA, tc, tD⟩ htD
    dsimp only at htD
    show SD _ _ _ _ _ _ _ _ _ _ _ _ (tbR g' n nx' tA tc l'.length tD (upX g n nx' l' k' :: [Is W]))
    refine sd_nil (sn_draw3 (pt g' t_entrepotref09_Table [.int .i64 n, .int .i64 nx', .slice tA l'.length tc] :: [Is W]) rfl (ent_keep 4 [0] rfl rfl) ?_)
    (refine sd_1 rfl (.inl rfl) ?_)
    refine sd_callE rfl rfl rfl rfl ((uNext_X hg').at (ent_keep 4 [3, 0, 1, 2] rfl rfl) (ent_keep 4 [1, 2, 3, 0] rfl rfl)) (ent_keep 4 [0] rfl rfl) ?_
    ((iterate 3 refine sd_1 rfl (.inl rfl) ?_); refine sd_l 0 rfl rfl rfl rfl ?_; (iterate 2 refine sd_1 rfl (.inl rfl) ?_))
    refine sd_know 60 (.bool false) rfl (congrArg (fun x => Value.bool (!x)) (decide_eq_true rfl)) ?_
    refine sd_nil ?_
    (refine sn_then ?_; refine sw_cond_f rfl ?_; refine sw_skip ?_; refine sn_then ?_; refine sw_seq ?_; refine sw_region ?_; refine so_1 rfl ?_)
    refine so_ent (ent_rp htD rfl) ?_
    refine so_call rfl rfl rfl ((uList_X hg' (by omega)).ent (ent_keep 2 [1, 0] rfl rfl)) ?_
    rintro v1 F' rfl
    (refine so_1 rfl ?_; refine so_nil ?_; refine sn_then ?_; (iterate 2 refine sw_seq ?_); refine sw_region ?_; (iterate 2 refine so_1 rfl ?_))
    refine so_call rfl rfl rfl ((rList_X hg').ent (ent_keep 3 [2, 0, 1] rfl rfl)) ?_
    rintro v2 F' rfl
    refine so_opn ?_
    intro D2 hD2
    refine so_ent (ent_keep 5 [3, 0, 1, 2, 4] rfl rfl) ?_
    refine so_opn ?_
    intro D1 hD1
    have h8 := hg'.len
    have hl1 : D1.length = l'.length := by rw [← hD1, List.length_map]
    refine so_callE rfl rfl rfl (SameSessions_S (D := D1) (E := D2) (sls_at (j := 0) (k := 1) rfl rfl) (sls_at (j := 2) (k := 3) rfl rfl) (hD1.trans hD2.symm) (by omega)) ?_
    (refine so_1 rfl ?_; refine so_nil ?_; refine sn_then ?_; refine sw_cond_f rfl ?_; refine sw_skip ?_; refine sn_then ?_; refine sw_region ?_; refine so_1 rfl ?_)
    refine so_call rfl rfl rfl (OverSessions_S (D := D1) (by omega) (fun d hd => Nat.le_trans (hg'.bs d.se (hD1 ▸ List.mem_map_of_mem hd)) (by decide))) ?_
    rintro _ _ rfl
    (refine so_nil ?_; refine sn_block ?_; refine sn_then ?_; refine sw_region ?_; refine so_1 rfl ?_; refine so_2 rfl (by (unfold I64; omega)) ?_; refine so_1 rfl ?_; refine so_nil ?_)
    exact sn_round (i + 1, nx', l', k') ⟨rfl, rfl, rfl, rfl, trivial⟩ (ent_keep 4 [3, 2] rfl rfl) ⟨by dsimp only; omega, hg', by dsimp only; omega⟩ (by dsimp only; omega)
  · (refine sw_exit ?_; refine sn_then_exit ?_; refine sn_loop_exit ?_; refine sn_block_exit ?_; refine sn_then ?_; refine sw_seq ?_; refine sw_region ?_)
    refine so_callE rfl rfl rfl (awake_U) ?_
    (refine so_1 rfl ?_; refine so_nil ?_; refine sn_then ?_; refine sw_ret ?_)
    refine sn_ret rfl (.tmp rfl .nil) (ent_keep 2 [] rfl rfl) ?_
    exact ⟨rfl, rfl⟩
end Go.Proofs.Ytjfileaidgknjaa
/- Uploads, part thirty-one: UploadLoads. Conditions: none. -/
namespace Go.Proofs.Ytjfileaidgknjaa
open Go Go.Eng Go.RowKit Go.WideMaps

theorem sesOk_gd {nx : Int} : ∀ {l : List Se} {last : Int}, sesOk nx last l = true → (∀ s ∈ l, last < s.1 ∧ s.1 < nx ∧ s.2.2.length ≤ 4096) ∧ l.Pairwise (fun a c => a.1 < c.1)
  | [], _, _ => ⟨by simp, List.Pairwise.nil⟩
  | d :: l, last, h => by
    simp only [sesOk, Bool.and_eq_true] at h
    obtain ⟨h1, h2⟩ := h
    obtain ⟨a1, a2, a3, _⟩ := of_decide_eq_true h1
    obtain ⟨b1, b2⟩ := sesOk_gd h2
    refine ⟨fun s hs => ?_, List.pairwise_cons.2 ⟨fun s hs => (b1 s hs).1, b2⟩⟩
    rcases List.mem_cons.1 hs with rfl | hs
    · exact ⟨a1, a2, a3⟩
    · obtain ⟨c1, c2, c3⟩ := b1 s hs
      exact ⟨by omega, c2, c3⟩
theorem gd_load {w nx : Int} {l : List Se} (h : rangeOk w nx) (h8 : l.length ≤ 8) (hs : sesOk nx 0 l = true) : Gd w nx l := by
  obtain ⟨h1, h2⟩ := sesOk_gd hs
  exact ⟨h.1, h.2.1, h.2.2.1, h.2.2.2, h2, fun s hs => (h1 s hs).2.1, fun s hs => (h1 s hs).2.2, h8⟩
section
variable {b : World} {F : List SP} {w nx : Int} {va : Value} {l : List Ds}
theorem uLoad_X (h : rangeOk w nx) (h8 : l.length ≤ 8 ∧ sesOk nx 0 (l.map Ds.se) = true) (hl : ∀ w, Sat b F w → SLs w va l) : SC Try.prog n_upload_Load [.int .i64 w, .int .i64 nx, va] b F
    (fun v F' => ∃ g, v = .tuple ⟨[.pointer (some ⟨g, 0, none⟩), .int .i64 0]⟩ ∧ F' = upX g w nx (l.map Ds.se) 1 :: F) := by
  refine (uLoad_S h hl).out ?_
  intro v F' hR
  rw [if_pos h8] at hR
  obtain ⟨g, A, c, L, rfl, hL, hp, rfl⟩ := hR
  exact ⟨_, ent_up hL (fun u hu => by rw [hp u hu]; exact Nat.le_refl _) (by rw [← hL, List.length_map]), g, rfl, rfl⟩
theorem rLoad_X (h : rangeOk w nx) (hbs : ∀ d ∈ l, d.b.length ≤ 1000000) (h8 : l.length ≤ 8 ∧ sesOk nx 0 (l.map Ds.se) = true) (hl : ∀ w, Sat b F w → SLs w va l) : SC Try.prog n_entrepotref09_Load [.int .i64 w, .int .i64 nx, va] b F
    (fun v F' => ∃ g, v = .tuple ⟨[.pointer (some ⟨g, 0, none⟩), .int .i64 0]⟩ ∧ F' = rpX g w nx (l.map Ds.se) :: F) := by
  refine (rLoad_S h hbs hl).out ?_
  intro v F' hR
  rw [if_pos h8] at hR
  obtain ⟨g, A, c, D, rfl, hD, rfl⟩ := hR
  exact ⟨_, ent_rp hD (by rw [← hD, List.length_map]), g, rfl, rfl⟩
theorem uLoad_no (h : rangeOk w nx) (h8 : ¬ (l.length ≤ 8 ∧ sesOk nx 0 (l.map Ds.se) = true)) (hl : ∀ w, Sat b F w → SLs w va l) : SC Try.prog n_upload_Load [.int .i64 w, .int .i64 nx, va] b F
    (fun v F' => v = .tuple ⟨[.pointer none, .int .i64 2]⟩ ∧ F' = F) := by
  refine (uLoad_S h hl).out ?_
  intro v F' hR
  rw [if_neg h8] at hR
  exact ⟨_, Ent.refl _, hR⟩
theorem rLoad_no (h : rangeOk w nx) (hbs : ∀ d ∈ l, d.b.length ≤ 1000000) (h8 : ¬ (l.length ≤ 8 ∧ sesOk nx 0 (l.map Ds.se) = true)) (hl : ∀ w, Sat b F w → SLs w va l) : SC Try.prog n_entrepotref09_Load [.int .i64 w, .int .i64 nx, va] b F
    (fun v F' => v = .tuple ⟨[.pointer none, .int .i64 2]⟩ ∧ F' = F) := by
  refine (rLoad_S h hbs hl).out ?_
  intro v F' hR
  rw [if_neg h8] at hR
  exact ⟨_, Ent.refl _, hR⟩
end
set_option maxRecDepth 20000 in
set_option maxHeartbeats 4000000 in
theorem walk_UploadLoads {W : World} {n nx : Int} {vs va : Value} {D : List Ds} {L : List Ac} (hs : SLs W vs D) (h : LAc W va L) : Calls Try.prog n_entrepotlaw09_UploadLoads #[.int .i64 n, .int .i64 nx, vs, va] W (fun e w' => e = .returned (.bool true) ∧ Ext W w') := by
  refine law_of (args := [.int .i64 n, .int .i64 nx, vs, va]) ?_
  have hl : ∀ {F : List SP} {k : Nat}, nth F k = some (Is W) → ∀ w, Sat W F w → LAc w va L := fun hk w H => h.ext (H.is hk)
  have hsl : ∀ {F : List SP} {k : Nat}, nth F k = some (Is W) → ∀ w, Sat W F w → SLs w vs D := fun hk w H => hs.ext (H.is hk)
  obtain ⟨A0, c0, rfl, _, _, _, k4, _⟩ := sl_form h.sl
  obtain ⟨B0, d0, rfl, _, _, _, m4, _⟩ := sl_form hs.sl
  refine enterS F_entrepotlaw09_UploadLoads rfl rfl rfl ?_
  (refine sw_seq ?_; refine sw_region ?_; refine so_1 rfl ?_; refine so_nil ?_; refine sn_then ?_; (iterate 2 refine sw_seq ?_); refine sw_region ?_; refine so_1 rfl ?_; refine so_nil ?_; refine sn_then ?_; refine sw_block ?_)
  refine sw_loop (S := Nat) (fun i => [(0, .int .i64 n), (1, .int .i64 nx), (2, .slice B0 D.length d0), (3, .slice A0 L.length c0), (9, .int .i64 (i : Int))]) (fun _ => [Is W]) (fun i => i ≤ D.length ∧ i ≤ 11 ∧ ∀ d ∈ D.take i, d.b.length ≤ 5000) (fun i => D.length - i) 0 ⟨rfl, rfl, rfl, rfl, rfl, trivial⟩ (Ent.refl _) ⟨Nat.zero_le _, Nat.zero_le _, by simp⟩ ?_
  rintro i ⟨hi, hi11, hbs⟩
  ((iterate 2 refine sw_seq ?_); refine sw_region ?_; (iterate 5 refine so_1 rfl ?_))
  by_cases h0 : i < D.length
  · refine so_know 20 (.bool true) rfl (congrArg Value.bool (decide_eq_true (by omega))) ?_
    ((iterate 3 refine so_1 rfl ?_); refine so_nil ?_; refine sn_then ?_)
    refine sw_if rfl (fun h2 => ?_) (fun h2 => ?_)
    · obtain ⟨gg, oo, rfl⟩ := m4 (by omega)
      have hc : ∀ {F : List SP} {k : Nat}, nth F k = some (Is W) → ∀ w, Sat W F w → ∀ j, j < 3 → w.cell? ⟨gg, oo + i * 3 + j, none⟩ = (dsC D[i])[j]? := fun hk w H j hj => fl_cell (hsl hk w H).sl (dsC_len D) h0 hj
      have hvl : ∀ {F : List SP} {k : Nat}, nth F k = some (Is W) → ∀ w, Sat W F w → VL (Value.int .u8) w D[i].bv D[i].b := fun hk w H => (hsl hk w H).bs _ (List.getElem_mem h0)
      have htk : D.take (i + 1) = D.take i ++ [D[i]] := List.take_succ_eq_append_getElem h0
      generalize D[i] = a at *
      obtain ⟨an, ar, av, ab⟩ := a
      (refine sw_skip ?_; refine sn_then ?_; refine sw_seq ?_; refine sw_block ?_; refine sw_seq ?_; refine sw_region ?_; (iterate 2 refine so_1 rfl ?_); refine so_2 rfl (by omega) ?_; refine so_1 rfl ?_)
      refine so_fact (fun w H => (hvl (k := 0) rfl w H).form) ?_
      rintro ⟨A7, c7, hv, _, _, _, _⟩
      dsimp only at hv
      subst hv
      refine so_rd rfl (fun w H => ex_load rfl rfl rfl (by rw [mulz_eq, Int.toNat_natCast]; exact hc (k := 0) rfl w H 2 (by decide))) rfl ?_
      ((iterate 3 refine so_1 rfl ?_))
      by_cases h3 : (5000 : Int) < ab.length
      · refine so_know 33 (.bool true) rfl (congrArg Value.bool (decide_eq_true h3)) ?_
        ((iterate 8 refine so_1 rfl ?_); refine so_nil ?_; refine sn_then ?_; refine sw_cond_t rfl ?_; refine sw_seq ?_; refine sw_region ?_)
        refine so_callE rfl rfl rfl (awake_U) ?_
        (refine so_1 rfl ?_; refine so_nil ?_; refine sn_then ?_; refine sw_ret ?_; refine sn_block_ret ?_; refine sn_then_ret ?_; refine sn_loop_ret ?_; refine sn_block_ret ?_; refine sn_then_ret ?_)
        refine sn_ret rfl (.tmp rfl .nil) (Ent.refl _) ?_
        exact ⟨rfl, rfl⟩
      refine so_know 33 (.bool false) rfl (congrArg Value.bool (decide_eq_false h3)) ?_
      ((iterate 2 refine so_1 rfl ?_); refine so_2 rfl (by omega) ?_; refine so_1 rfl ?_)
      refine so_rd rfl (fun w H => ex_load rfl rfl rfl (by rw [mulz_eq, Int.toNat_natCast]; exact hc (k := 0) rfl w H 1 (by decide))) rfl ?_
      ((iterate 3 refine so_1 rfl ?_); refine so_nil ?_; refine sn_then ?_)
      refine sw_if rfl (fun h4 => ?_) (fun h4 => ?_)
      · (refine sw_seq ?_; refine sw_region ?_)
        refine so_callE rfl rfl rfl (awake_U) ?_
        (refine so_1 rfl ?_; refine so_nil ?_; refine sn_then ?_; refine sw_ret ?_; refine sn_block_ret ?_; refine sn_then_ret ?_; refine sn_loop_ret ?_; refine sn_block_ret ?_; refine sn_then_ret ?_)
        refine sn_ret rfl (.tmp rfl .nil) (Ent.refl _) ?_
        exact ⟨rfl, rfl⟩
      (refine sw_skip ?_; refine sn_block ?_; refine sn_then ?_; refine sw_region ?_; refine so_1 rfl ?_; refine so_2 rfl (by (unfold I64; omega)) ?_; refine so_1 rfl ?_; refine so_nil ?_)
      refine sn_round (i + 1) ⟨rfl, rfl, rfl, rfl, rfl, trivial⟩ (Ent.refl _) ⟨h0, by omega, ?_⟩ (by omega)
      intro a ha
      rw [htk] at ha
      rcases List.mem_append.1 ha with ha | ha
      · exact hbs a ha
      · rw [List.mem_singleton.1 ha]; dsimp only; omega
    · (refine sw_exit ?_; refine sn_then_exit ?_; refine sn_loop_exit ?_; refine sn_block_exit ?_; refine sn_then ?_; (iterate 2 refine sw_seq ?_); refine sw_region ?_; (iterate 4 refine so_1 rfl ?_))
      refine so_know 46 (.bool true) rfl (congrArg Value.bool (decide_eq_true (by omega))) ?_
      ((iterate 3 refine so_1 rfl ?_); refine so_nil ?_; refine sn_then ?_; refine sw_cond_t rfl ?_; refine sw_seq ?_; refine sw_region ?_)
      refine so_callE rfl rfl rfl (awake_U) ?_
      (refine so_1 rfl ?_; refine so_nil ?_; refine sn_then ?_; refine sw_ret ?_; refine sn_then_ret ?_)
      refine sn_ret rfl (.tmp rfl .nil) (Ent.refl _) ?_
      exact ⟨rfl, rfl⟩
  refine so_know 20 (.bool false) rfl (congrArg Value.bool (decide_eq_false (by omega))) ?_
  ((iterate 3 refine so_1 rfl ?_); refine so_nil ?_; refine sn_then ?_; refine sw_cond_f rfl ?_; refine sw_exit ?_; refine sn_then_exit ?_; refine sn_loop_exit ?_; refine sn_block_exit ?_; refine sn_then ?_; (iterate 2 refine sw_seq ?_); refine sw_region ?_; (iterate 4 refine so_1 rfl ?_))
  by_cases h5 : (10 : Int) < D.length
  · refine so_know 46 (.bool true) rfl (congrArg Value.bool (decide_eq_true h5)) ?_
    ((iterate 3 refine so_1 rfl ?_); refine so_nil ?_; refine sn_then ?_; refine sw_cond_t rfl ?_; refine sw_seq ?_; refine sw_region ?_)
    refine so_callE rfl rfl rfl (awake_U) ?_
    (refine so_1 rfl ?_; refine so_nil ?_; refine sn_then ?_; refine sw_ret ?_; refine sn_then_ret ?_)
    refine sn_ret rfl (.tmp rfl .nil) (Ent.refl _) ?_
    exact ⟨rfl, rfl⟩
  refine so_know 46 (.bool false) rfl (congrArg Value.bool (decide_eq_false h5)) ?_
  have hbs' : ∀ d ∈ D, d.b.length ≤ 5000 := by rwa [show i = D.length by omega, List.take_length] at hbs
  clear hbs
  (refine so_1 rfl ?_)
  refine so_call rfl rfl rfl (Long_S (L := L) (hl (k := 0) rfl)) ?_
  rintro _ _ ⟨q, hq, rfl, rfl⟩
  cases q with
  | true =>
    (refine so_1 rfl ?_; refine so_nil ?_; refine sn_then ?_; refine sw_cond_t rfl ?_; refine sw_seq ?_; refine sw_region ?_)
    refine so_callE rfl rfl rfl (awake_U) ?_
    (refine so_1 rfl ?_; refine so_nil ?_; refine sn_then ?_; refine sw_ret ?_; refine sn_then_ret ?_)
    refine sn_ret rfl (.tmp rfl .nil) (Ent.refl _) ?_
    exact ⟨rfl, rfl⟩
  | false =>
  obtain ⟨hl40, hle⟩ := hq rfl
  (refine so_1 rfl ?_; refine so_nil ?_; refine sn_then ?_; refine sw_cond_f rfl ?_; refine sw_skip ?_; refine sn_then ?_; refine sw_seq ?_; refine sw_region ?_; refine so_1 rfl ?_)
  refine so_call rfl rfl rfl (CopySessions_S (hsl (k := 0) rfl) (by omega) (fun d hd => Nat.le_trans (hbs' d hd) (by decide))) ?_
  rintro vi F' ⟨E, hE, rfl⟩
  have hEl : E.length = D.length := by simpa using congrArg List.length hE
  have hEb : ∀ d ∈ E, d.b.length ≤ 1000000 := fun d hd => by
    have : d.se ∈ D.map Ds.se := hE ▸ List.mem_map_of_mem hd
    obtain ⟨e, he, hee⟩ := List.mem_map.1 this
    have h1 := hbs' e he
    have h2 : e.b = d.b := congrArg (fun s : Se => s.2.2) hee
    rw [← h2]; omega
  (refine so_1 rfl ?_; refine so_nil ?_; refine sn_then ?_; refine sw_seq ?_; refine sw_region ?_; (iterate 3 refine so_1 rfl ?_))
  by_cases hgood : rangeOk n nx ∧ (D.length ≤ 8 ∧ sesOk nx 0 (D.map Ds.se) = true)
  case neg =>
    obtain ⟨e, hu, hr⟩ : ∃ e : Int, (∀ (F : List SP) (va : Value), (∀ w, Sat W F w → SLs w va E) → SC Try.prog n_upload_Load [.int .i64 n, .int .i64 nx, va] W F (fun v F' => v = .tuple ⟨[.pointer none, .int .i64 e]⟩ ∧ F' = F)) ∧ (∀ (F : List SP) (va : Value), (∀ w, Sat W F w → SLs w va D) → SC Try.prog n_entrepotref09_Load [.int .i64 n, .int .i64 nx, va] W F (fun v F' => v = .tuple ⟨[.pointer none, .int .i64 e]⟩ ∧ F' = F)) := by
      by_cases hr : rangeOk n nx
      · have hb : ¬ (D.length ≤ 8 ∧ sesOk nx 0 (D.map Ds.se) = true) := fun h => hgood ⟨hr, h⟩
        exact ⟨2, fun F va h => uLoad_no hr (by rw [hE, hEl]; exact hb) h, fun F va h => rLoad_no hr (fun d hd => Nat.le_trans (hbs' d hd) (by decide)) hb h⟩
      · exact ⟨3, fun F va h => uLoad_range hr, fun F va h => rLoad_range hr⟩
    refine so_callE rfl rfl rfl (hu _ _ (sls_at (j := 0) (k := 1) rfl rfl)) ?_
    ((iterate 5 refine so_1 rfl ?_); refine so_nil ?_; refine sn_then ?_; refine sw_seq ?_; refine sw_region ?_; (iterate 3 refine so_1 rfl ?_))
    refine so_callE rfl rfl rfl (hr _ _ (hsl (k := 2) rfl)) ?_
    ((iterate 5 refine so_1 rfl ?_); refine so_nil ?_; refine sn_then ?_; (iterate 2 refine sw_seq ?_); refine sw_region ?_; (iterate 4 refine so_1 rfl ?_))
    refine so_know 70 (.bool false) rfl (congrArg (fun x => Value.bool (!x)) (decide_eq_true rfl)) ?_
    ((iterate 9 refine so_1 rfl ?_))
    refine so_callE rfl rfl rfl (SameSessions_S (D := E) (E := D) (sls_at (j := 0) (k := 1) rfl rfl) (hsl (k := 2) rfl) hE (by omega)) ?_
    ((iterate 2 refine so_1 rfl ?_); refine so_nil ?_; refine sn_then ?_; refine sw_cond_f rfl ?_; refine sw_skip ?_; refine sn_then ?_; refine sw_seq ?_; refine sw_region ?_; refine so_1 rfl ?_)
    refine so_call rfl rfl rfl (OverSessions_S (D := E) (by omega) hEb) ?_
    rintro _ _ rfl
    (refine so_nil ?_; refine sn_then ?_; (iterate 2 refine sw_seq ?_); refine sw_region ?_; (iterate 2 refine so_1 rfl ?_); refine so_nil ?_; refine sn_then ?_; refine sw_cond_t rfl ?_; refine sw_seq ?_; refine sw_region ?_)
    refine so_callE rfl rfl rfl (awake_U) ?_
    (refine so_1 rfl ?_; refine so_nil ?_; refine sn_then ?_; refine sw_ret ?_; refine sn_then_ret ?_)
    refine sn_ret rfl (.tmp rfl .nil) (Ent.refl _) ?_
    exact ⟨rfl, rfl⟩
  obtain ⟨hrg, hgo⟩ := hgood
  have hg := gd_load (l := D.map Ds.se) hrg (by rw [List.length_map]; exact hgo.1) hgo.2
  refine so_call rfl rfl rfl (uLoad_X (l := E) hrg (by rw [hE, hEl]; exact hgo) (sls_at (j := 0) (k := 1) rfl rfl)) ?_
  rw [hE]
  rintro _ _ ⟨g, rfl, rfl⟩
  ((iterate 5 refine so_1 rfl ?_); refine so_nil ?_; refine sn_then ?_; refine sw_seq ?_; refine sw_region ?_; (iterate 3 refine so_1 rfl ?_))
  refine so_call rfl rfl rfl (rLoad_X (l := D) hrg (fun d hd => Nat.le_trans (hbs' d hd) (by decide)) hgo (hsl (k := 3) rfl)) ?_
  rintro _ _ ⟨g', rfl, rfl⟩
  ((iterate 5 refine so_1 rfl ?_); refine so_nil ?_; refine sn_then ?_; (iterate 2 refine sw_seq ?_); refine sw_region ?_; (iterate 13 refine so_1 rfl ?_))
  refine so_callE rfl rfl rfl ((SameSessions_S (D := E) (E := D) (sls_at (j := 2) (k := 3) rfl rfl) (hsl (k := 4) rfl) hE (by omega))) ?_
  ((iterate 2 refine so_1 rfl ?_); refine so_nil ?_; refine sn_then ?_; refine sw_cond_f rfl ?_; refine sw_skip ?_; refine sn_then ?_; refine sw_seq ?_; refine sw_region ?_; refine so_1 rfl ?_)
  refine so_call rfl rfl rfl ((OverSessions_S (D := E) (by omega) hEb).ent (ent_keep 4 [2, 3, 0, 1] rfl rfl)) ?_
  rintro _ _ rfl
  (refine so_nil ?_; refine sn_then ?_; (iterate 2 refine sw_seq ?_); refine sw_region ?_; (iterate 2 refine so_1 rfl ?_); refine so_nil ?_; refine sn_then ?_; refine sw_cond_f rfl ?_; refine sw_skip ?_; refine sn_then ?_; (iterate 2 refine sw_seq ?_))
  have h8 := hg.len
  refine sw_opn ?_
  rintro ⟨tA, tc, tD⟩ htD
  dsimp only at htD
  have htl : tD.length = (D.map Ds.se).length := by rw [← htD, List.length_map]
  have htb : ∀ d ∈ tD, d.b.length ≤ 4096 := fun d hd => hg.bs d.se (htD ▸ List.mem_map_of_mem hd)
  show SW _ _ _ _ _ _ _ _ (tbR g' n nx tA tc (D.map Ds.se).length tD (upX g n nx (D.map Ds.se) 1 :: [Is W]))
  refine sw_draw flo (pt g' t_entrepotref09_Table [.int .i64 n, .int .i64 nx, .slice tA (D.map Ds.se).length tc] :: [Is W]) (by decide +kernel) (ent_keep 4 [0] rfl rfl) ?_
  (refine sd_1 rfl (.inl rfl) ?_)
  refine sd_call rfl rfl rfl rfl ((uList_X hg (by decide)).ent (ent_keep 4 [3, 0, 1, 2] rfl rfl)) ?_
  rintro v1 F' rfl
  refine ⟨ent_keep 5 [2] rfl rfl, ?_⟩
  (refine sd_1 rfl (.inl rfl) ?_)
  refine sd_call rfl rfl rfl rfl ((rList_S htl (by omega) htb).ent (ent_keep 5 [2, 3, 4, 0, 1] rfl rfl)) ?_
  rintro v2 F' ⟨D2, hD2, rfl⟩
  refine ⟨ent_keep 7 [2] rfl rfl, ?_⟩
  refine sd_ent (ent_keep 7 [5, 0, 1, 2, 3, 4, 6] rfl rfl) ?_
  refine sd_opn ?_
  intro D1 hD1
  have hl1 : D1.length = (D.map Ds.se).length := by rw [← hD1, List.length_map]
  skip
  refine sd_callE rfl rfl rfl rfl (SameSessions_S (D := D1) (E := D2) (sls_at (j := 0) (k := 1) rfl rfl) (sls_at (j := 2) (k := 3) rfl rfl) (by rw [hD1, hD2, htD]) (by omega)) (ent_keep 8 [4] rfl rfl) ?_
  ((iterate 3 refine sd_1 rfl (.inl rfl) ?_))
  refine sd_callE rfl rfl rfl rfl ((uNext_X hg).at (ent_keep 8 [7, 0, 1, 2, 3, 4, 5, 6] rfl rfl) (ent_keep 8 [1, 2, 3, 4, 5, 6, 7, 0] rfl rfl)) (ent_keep 8 [4] rfl rfl) ?_
  ((iterate 3 refine sd_1 rfl (.inl rfl) ?_); refine sd_l 0 rfl rfl rfl rfl ?_; (iterate 2 refine sd_1 rfl (.inl rfl) ?_))
  refine sd_know 102 (.bool false) rfl (congrArg (fun x => Value.bool (!x)) (decide_eq_true rfl)) ?_
  refine sd_nil ?_
  (refine sn_then ?_; refine sw_cond_f rfl ?_; refine sw_skip ?_; refine sn_then ?_; (iterate 2 refine sw_seq ?_); refine sw_region ?_; refine so_1 rfl ?_; refine so_nil ?_; refine sn_then ?_; refine sw_block ?_)
  refine sw_loop (S := Nat × Int × List Se × Nat) (fun s => [(3, .slice A0 L.length c0), (11, .pointer (some ⟨g, 0, none⟩)), (13, .pointer (some ⟨g', 0, none⟩)), (15, .int .i64 (s.1 : Int))]) (fun s => upX g n s.2.1 s.2.2.1 s.2.2.2 :: rpX g' n s.2.1 s.2.2.1 :: [Is W]) (fun s => s.1 ≤ L.length ∧ Gd n s.2.1 s.2.2.1 ∧ s.2.2.2 ≤ s.1 + 1) (fun s => L.length - s.1) (0, nx, D.map Ds.se, 1) ⟨rfl, rfl, rfl, rfl, trivial⟩ ((ent_keep 8 [4, 5, 6, 7] rfl rfl).trans ((ent_rp htD rfl).trans (ent_keep 2 [1, 0] rfl rfl))) ⟨Nat.zero_le _, hg, Nat.le_refl _⟩ ?_
  clear hD1 hD2 hl1 htb htl htD hg h8 hE hEl hEb hgo
  rintro ⟨j, mx, l, k⟩ ⟨hj, hg, hk⟩
  dsimp only at hj hg hk ⊢
  ((iterate 2 refine sw_seq ?_); refine sw_region ?_; (iterate 4 refine so_1 rfl ?_); refine so_nil ?_; refine sn_then ?_)
  refine sw_if rfl (fun h1 => ?_) (fun h1 => ?_)
  · have h1' : j < L.length := by omega
    obtain ⟨bk, off, rfl⟩ := k4 (by omega)
    have hmem := List.getElem_mem h1'
    have hc : ∀ {F : List SP} {k : Nat}, nth F k = some (Is W) → ∀ w, Sat W F w → ∀ q, q < 7 → w.cell? ⟨bk, off + j * 7 + q, none⟩ = (acC L[j])[q]? := fun hk w H q hq => fl_cell (hl hk w H).sl (acC_len L) h1' hq
    have hxv : ∀ {F : List SP} {k : Nat}, nth F k = some (Is W) → ∀ w, Sat W F w → VL (Value.int .u8) w L[j].bv L[j].b := fun hk w H => (hl hk w H).bs _ hmem
    have hxl := hle _ hmem
    generalize L[j] = x at *
    (refine sw_skip ?_; refine sn_then ?_; refine sw_seq ?_; refine sw_block ?_; refine sw_seq ?_; refine sw_region ?_; (iterate 4 refine so_1 rfl ?_); refine so_2 rfl (by omega) ?_)
    refine so_rd rfl (fun w H => ex_loadN (cs := acC x) rfl rfl rfl rfl (fun q hq => by rw [mulz_eq, Int.toNat_natCast]; exact hc (k := 2) rfl w H q hq)) rfl ?_
    refine so_call rfl rfl rfl (acted_S (g := g) (g' := g') (k := k) hg (hxv (k := 0) rfl) hxl (by omega)) ?_
    rintro v F' ⟨rfl, nx', l', k', hg', hk', rfl⟩
    (refine so_1 rfl ?_; refine so_nil ?_; refine sn_then ?_; refine sw_cond_f rfl ?_; refine sw_skip ?_; refine sn_block ?_; refine sn_then ?_; refine sw_region ?_; refine so_1 rfl ?_; refine so_2 rfl (by (unfold I64; omega)) ?_; refine so_1 rfl ?_; refine so_nil ?_)
    exact sn_round (j + 1, nx', l', k') ⟨rfl, rfl, rfl, rfl, trivial⟩ (Ent.refl _) ⟨h1', hg', by dsimp only; omega⟩ (by dsimp only; omega)
  · (refine sw_exit ?_; refine sn_then_exit ?_; refine sn_loop_exit ?_; refine sn_block_exit ?_; refine sn_then ?_; refine sw_seq ?_; refine sw_region ?_; refine so_1 rfl ?_)
    refine so_call rfl rfl rfl (uList_X hg (by omega)) ?_
    rintro v3 F' rfl
    (refine so_1 rfl ?_)
    refine so_call rfl rfl rfl ((rList_X hg).ent (ent_keep 3 [2, 0, 1] rfl rfl)) ?_
    rintro v4 F' rfl
    refine so_opn ?_
    intro D4 hD4
    refine so_ent (ent_keep 5 [3, 0, 1, 2, 4] rfl rfl) ?_
    refine so_opn ?_
    intro D3 hD3
    have h8 := hg.len
    have hl3 : D3.length = l.length := by rw [← hD3, List.length_map]
    refine so_callE rfl rfl rfl (SameSessions_S (D := D3) (E := D4) (sls_at (j := 0) (k := 1) rfl rfl) (sls_at (j := 2) (k := 3) rfl rfl) (hD3.trans hD4.symm) (by omega)) ?_
    (refine so_1 rfl ?_)
    refine so_callE rfl rfl rfl (awake_U) ?_
    ((iterate 2 refine so_1 rfl ?_); refine so_nil ?_; refine sn_then ?_; refine sw_ret ?_)
    refine sn_ret rfl (.tmp rfl .nil) (ent_keep 6 [] rfl rfl) ?_
    exact ⟨rfl, rfl⟩
end Go.Proofs.Ytjfileaidgknjaa
/- Uploads, part thirty-two: no table; UploadNone. Conditions: none. -/
namespace Go.Proofs.Ytjfileaidgknjaa
open Go Go.Eng Go.RowKit Go.WideMaps

section
variable {b : World} {F : List SP} {q : Option Addr} {N : SP} (hN : ∀ (b : World) (F : List SP), SC Try.prog n_p_upload_Table_none [.pointer q] b (N :: F) (fun v F' => v = .bool true ∧ F' = N :: F))
include hN
theorem with_N {x : Int} {d : Value} : SC Try.prog n_p_upload_Table_with [.pointer q, .int .i64 x, d] b (N :: F) (fun v F' => v = .int .i64 1 ∧ F' = N :: F) := by
  refine enterS F_p_upload_Table_with rfl rfl rfl ?_
  (refine sw_seq ?_; refine sw_region ?_; refine so_1 rfl ?_; refine so_nil ?_; refine sn_then ?_; (iterate 2 refine sw_seq ?_); refine sw_region ?_; refine so_1 rfl ?_)
  refine so_callE rfl rfl rfl (hN _ _) ?_
  (refine so_nil ?_; refine sn_then ?_; refine sw_cond_t rfl ?_; refine sw_seq ?_; refine sw_region ?_; refine so_1 rfl ?_; refine so_nil ?_; refine sn_then ?_; refine sw_ret ?_; refine sn_then_ret ?_)
  refine sn_ret rfl (.tmp rfl .nil) (Ent.refl _) ?_
  exact ⟨rfl, rfl⟩
theorem NStart {s : ByteArray} : SC Try.prog n_p_upload_Table_Start [.pointer q, .string s] b (N :: F) (fun v F' => v = .tuple ⟨[.int .i64 0, .int .i64 1]⟩ ∧ F' = N :: F) := by
  refine enterS F_p_upload_Table_Start rfl rfl rfl ?_
  (refine sw_seq ?_; refine sw_region ?_; (iterate 2 refine so_1 rfl ?_); refine so_nil ?_; refine sn_then ?_; refine sw_seq ?_; refine sw_block ?_; refine sw_seq ?_; refine sw_region ?_; refine so_1 rfl ?_)
  refine so_callE rfl rfl rfl (hN _ _) ?_
  (refine so_1 rfl ?_; refine so_nil ?_; refine sn_then ?_; refine sw_cond_t rfl ?_; refine sw_seq ?_; refine sw_region ?_; (iterate 2 refine so_1 rfl ?_); refine so_nil ?_; refine sn_then ?_; refine sw_ret ?_; refine sn_block_ret ?_; refine sn_then_ret ?_)
  refine sn_ret rfl (.tmp rfl (.tmp rfl .nil)) (Ent.refl _) ?_
  exact ⟨rfl, rfl⟩
theorem NOffset {x : Int} : SC Try.prog n_p_upload_Table_Offset [.pointer q, .int .i64 x] b (N :: F) (fun v F' => v = .tuple ⟨[.int .i64 0, .int .i64 1]⟩ ∧ F' = N :: F) := by
  refine enterS F_p_upload_Table_Offset rfl rfl rfl ?_
  (refine sw_seq ?_; refine sw_region ?_)
  refine so_new rfl rfl rfl rfl rfl fun g4 => ?_
  (refine so_1 rfl ?_; refine so_nil ?_; refine sn_then ?_; refine sw_seq ?_; refine sw_region ?_; (iterate 3 refine so_1 rfl ?_))
  refine so_call rfl rfl rfl ((with_N hN).ent (ent_keep 2 [1, 0] rfl rfl)) ?_
  rintro v F' ⟨rfl, rfl⟩
  (refine so_1 rfl ?_; refine so_nil ?_; refine sn_then ?_; refine sw_seq ?_; refine sw_region ?_; refine so_l 1 rfl rfl rfl ?_; refine so_1 rfl ?_; refine so_s1 1 rfl rfl rfl rfl ?_; refine so_1 rfl ?_; refine so_nil ?_; refine sn_then ?_; refine sw_ret ?_)
  refine sn_ret rfl (.cell 1 rfl rfl rfl rfl rfl (.tmp rfl .nil)) (ent_keep 2 [0] rfl rfl) ?_
  exact ⟨rfl, rfl⟩
theorem NWrite {x off : Int} {vb : Value} {xs : List Int} (hb : ∀ w, Sat b F w → VL (Value.int .u8) w vb xs) : SC Try.prog n_p_upload_Table_Write [.pointer q, .int .i64 x, .int .i64 off, vb] b (N :: F) (fun v F' => v = .tuple ⟨[.int .i64 0, .int .i64 1]⟩ ∧ F' = N :: F) := by
  refine enterS F_p_upload_Table_Write rfl rfl rfl ?_
  refine sw_fact (fun w H => (hb w (H.ent (ent_keep 1 [] rfl rfl))).form) ?_
  rintro ⟨bA, bc, rfl, b1, b2, b3, b4⟩
  (refine sw_seq ?_; refine sw_region ?_)
  refine so_box rfl rfl rfl rfl rfl fun g6 => ?_
  skip
  refine so_box rfl rfl rfl rfl rfl fun g7 => ?_
  skip
  refine so_new rfl rfl rfl rfl rfl fun g8 => ?_
  (refine so_1 rfl ?_; refine so_nil ?_; refine sn_then ?_; refine sw_seq ?_; refine sw_region ?_; (iterate 3 refine so_1 rfl ?_))
  refine so_call rfl rfl rfl ((with_N hN).ent (ent_keep 4 [3, 0, 1, 2] rfl rfl)) ?_
  rintro v F' ⟨rfl, rfl⟩
  (refine so_1 rfl ?_; refine so_nil ?_; refine sn_then ?_; refine sw_seq ?_; refine sw_region ?_; refine so_l 1 rfl rfl rfl ?_; refine so_1 rfl ?_; refine so_s1 1 rfl rfl rfl rfl ?_; refine so_1 rfl ?_; refine so_nil ?_; refine sn_then ?_; refine sw_ret ?_)
  refine sn_ret rfl (.cell 1 rfl rfl rfl rfl rfl (.tmp rfl .nil)) (ent_keep 4 [0] rfl rfl) ?_
  exact ⟨rfl, rfl⟩
theorem NFinish {x : Int} {id : List Int} (hid : id.length = 32) : SC Try.prog n_p_upload_Table_Finish [.pointer q, .int .i64 x, idV id] b (N :: F) (fun v F' => v = .tuple ⟨[ss0, .int .i64 1]⟩ ∧ F' = N :: F) := by
  refine enterS F_p_upload_Table_Finish rfl rfl rfl ?_
  (refine sw_seq ?_; refine sw_region ?_)
  refine so_box rfl rfl rfl rfl rfl fun g3 => ?_
  skip
  refine so_box rfl rfl rfl rfl rfl fun g5 => ?_
  skip
  refine so_new rfl rfl rfl rfl rfl fun g6 => ?_
  (refine so_1 rfl ?_; refine so_nil ?_; refine sn_then ?_; refine sw_seq ?_; refine sw_region ?_; refine so_l 2 rfl rfl rfl ?_; (iterate 2 refine so_1 rfl ?_))
  refine so_call rfl rfl rfl ((with_N hN).ent (ent_keep 4 [3, 0, 1, 2] rfl rfl)) ?_
  rintro v F' ⟨rfl, rfl⟩
  (refine so_1 rfl ?_; refine so_nil ?_; refine sn_then ?_; refine sw_seq ?_; refine sw_region ?_; refine so_l 1 rfl rfl rfl ?_; refine so_1 rfl ?_; refine so_s1 1 rfl rfl rfl rfl ?_; refine so_1 rfl ?_; refine so_nil ?_; refine sn_then ?_; refine sw_ret ?_)
  refine sn_ret rfl (.agg 1 rfl rfl rfl rfl rfl (.tmp rfl .nil)) (ent_keep 4 [0] rfl rfl) ?_
  exact ⟨rfl, rfl⟩
theorem NCancel {x : Int} : SC Try.prog n_p_upload_Table_Cancel [.pointer q, .int .i64 x] b (N :: F) (fun v F' => v = .int .i64 1 ∧ F' = N :: F) := by
  refine enterS F_p_upload_Table_Cancel rfl rfl rfl ?_
  (refine sw_seq ?_; refine sw_region ?_)
  refine so_box rfl rfl rfl rfl rfl fun gc => ?_
  (refine so_1 rfl ?_; refine so_nil ?_; refine sn_then ?_; refine sw_seq ?_; refine sw_region ?_; refine so_l 0 rfl rfl rfl ?_; (iterate 2 refine so_1 rfl ?_))
  refine so_call rfl rfl rfl ((with_N hN).ent (ent_keep 2 [1, 0] rfl rfl)) ?_
  rintro v F' ⟨rfl, rfl⟩
  (refine so_1 rfl ?_; refine so_nil ?_; refine sn_then ?_; refine sw_ret ?_)
  refine sn_ret rfl (.tmp rfl .nil) (ent_keep 2 [0] rfl rfl) ?_
  exact ⟨rfl, rfl⟩
theorem NNext : SC Try.prog n_p_upload_Table_Next [.pointer q] b (N :: F) (fun v F' => v = .int .i64 0 ∧ F' = N :: F) := by
  refine enterS F_p_upload_Table_Next rfl rfl rfl ?_
  (refine sw_seq ?_; refine sw_region ?_; refine so_1 rfl ?_; refine so_nil ?_; refine sn_then ?_; (iterate 2 refine sw_seq ?_); refine sw_region ?_; refine so_1 rfl ?_)
  refine so_callE rfl rfl rfl (hN _ _) ?_
  (refine so_nil ?_; refine sn_then ?_; refine sw_cond_t rfl ?_; refine sw_seq ?_; refine sw_region ?_; refine so_1 rfl ?_; refine so_nil ?_; refine sn_then ?_; refine sw_ret ?_; refine sn_then_ret ?_)
  refine sn_ret rfl (.tmp rfl .nil) (Ent.refl _) ?_
  exact ⟨rfl, rfl⟩
theorem NList : SC Try.prog n_p_upload_Table_List [.pointer q] b (N :: F) (fun v F' => v = .slice none 0 0 ∧ F' = N :: F) := by
  refine enterS F_p_upload_Table_List rfl rfl rfl ?_
  (refine sw_seq ?_; refine sw_region ?_; refine so_1 rfl ?_; refine so_nil ?_; refine sn_then ?_; (iterate 2 refine sw_seq ?_); refine sw_region ?_; refine so_1 rfl ?_)
  refine so_callE rfl rfl rfl (hN _ _) ?_
  (refine so_nil ?_; refine sn_then ?_; refine sw_cond_t rfl ?_; refine sw_seq ?_; refine sw_region ?_; refine so_1 rfl ?_; refine so_nil ?_; refine sn_then ?_; refine sw_ret ?_; refine sn_then_ret ?_)
  refine sn_ret rfl (.tmp rfl .nil) (Ent.refl _) ?_
  exact ⟨rfl, rfl⟩
end
set_option maxRecDepth 20000 in
set_option maxHeartbeats 4000000 in
theorem walk_UploadNone {W : World} {n off : Int} {vb : Value} {xs id : List Int} (hb : VL (Value.int .u8) W vb xs) (hid : id.length = 32) (_ : byteW id) : Calls Try.prog n_entrepotlaw09_UploadNone #[.int .i64 n, .int .i64 off, vb, idV id] W (fun e w' => e = .returned (.bool true) ∧ Ext W w') := by
  refine law_of (args := [.int .i64 n, .int .i64 off, vb, idV id]) ?_
  obtain ⟨bA, bc, rfl, _, _, _, _⟩ := hb.form
  refine enterS F_entrepotlaw09_UploadNone rfl rfl rfl ?_
  (refine sw_seq ?_; refine sw_region ?_)
  refine so_box rfl rfl rfl rfl rfl fun g7 => ?_
  (refine so_1 rfl ?_; refine so_nil ?_; refine sn_then ?_; (iterate 2 refine sw_seq ?_); refine sw_region ?_; (iterate 3 refine so_1 rfl ?_); refine so_nil ?_; refine sn_then ?_)
  refine sw_if rfl (fun h0 => ?_) (fun h0 => ?_)
  · (refine sw_seq ?_; refine sw_region ?_)
    refine so_callE rfl rfl rfl (awake_U) ?_
    (refine so_1 rfl ?_; refine so_nil ?_; refine sn_then ?_; refine sw_ret ?_; refine sn_then_ret ?_)
    refine sn_ret rfl (.tmp rfl .nil) (ent_keep 1 [] rfl rfl) ?_
    exact ⟨rfl, rfl⟩
  (refine sw_skip ?_; refine sn_then ?_; refine sw_seq ?_; refine sw_region ?_; refine so_1 rfl ?_)
  refine so_box rfl rfl rfl rfl rfl fun g25 => ?_
  refine so_lit [.pointer none, .pointer (some ⟨g25, 0, none⟩)] rfl rfl rfl rfl rfl rfl rfl rfl rfl fun g26 => ?_
  (refine so_1 rfl ?_; refine so_nil ?_; refine sn_then ?_; (iterate 2 refine sw_seq ?_); refine sw_region ?_; refine so_1 rfl ?_; refine so_nil ?_; refine sn_then ?_; refine sw_block ?_)
  refine sw_loop (S := Nat) (fun i => [(0, .int .i64 n), (1, .int .i64 off), (2, .slice bA xs.length bc), (7, .pointer (some ⟨g7, 0, none⟩)), (9, .slice (some ⟨g26, 0, none⟩) 2 2), (10, .int .i64 (i : Int))]) (fun _ => all [] :: pt g25 t_upload_Table [.int .i64 0, .int .i64 0, .slice none 0 0] :: pt g26 t_p_upload_Table [.pointer none, .pointer (some ⟨g25, 0, none⟩)] :: pt g7 t_api_ID (u8s id) :: [Is W]) (fun i => i ≤ 2) (fun i => 2 - i) 0 ⟨rfl, rfl, rfl, rfl, rfl, rfl, trivial⟩ ((ent_keep 3 [1, 0, 2] rfl rfl).trans (ent_close (G := []))) (Nat.zero_le _) ?_
  intro i hi
  ((iterate 2 refine sw_seq ?_); refine sw_region ?_; (iterate 4 refine so_1 rfl ?_); refine so_nil ?_; refine sn_then ?_)
  refine sw_if rfl (fun h1 => ?_) (fun h1 => ?_)
  · obtain ⟨q, N, X, hq, hN, e1, e2⟩ : ∃ (q : Option Addr) (N X : SP), nth [Value.pointer none, .pointer (some ⟨g25, 0, none⟩)] (0 + mulz (i : Int).toNat 1) = some (.pointer q) ∧
        (∀ (b : World) (F : List SP), SC Try.prog n_p_upload_Table_none [.pointer q] b (N :: F) (fun v F' => v = .bool true ∧ F' = N :: F)) ∧
        Ent (all [] :: pt g25 t_upload_Table [.int .i64 0, .int .i64 0, .slice none 0 0] :: pt g26 t_p_upload_Table [.pointer none, .pointer (some ⟨g25, 0, none⟩)] :: pt g7 t_api_ID (u8s id) :: [Is W]) (N :: X :: pt g26 t_p_upload_Table [.pointer none, .pointer (some ⟨g25, 0, none⟩)] :: pt g7 t_api_ID (u8s id) :: [Is W]) ∧
        Ent (N :: X :: pt g26 t_p_upload_Table [.pointer none, .pointer (some ⟨g25, 0, none⟩)] :: pt g7 t_api_ID (u8s id) :: [Is W]) (all [] :: pt g25 t_upload_Table [.int .i64 0, .int .i64 0, .slice none 0 0] :: pt g26 t_p_upload_Table [.pointer none, .pointer (some ⟨g25, 0, none⟩)] :: pt g7 t_api_ID (u8s id) :: [Is W]) := by
      rcases (show i = 0 ∨ i = 1 by omega) with rfl | rfl
      · exact ⟨none, _, _, rfl, fun b F => unone_nil, Ent.refl _, Ent.refl _⟩
      · exact ⟨some ⟨g25, 0, none⟩, _, _, rfl, fun b F => unone_S, ent_keep 4 [1, 0, 2, 3] rfl rfl, ent_keep 4 [1, 0, 2, 3] rfl rfl⟩
    refine sw_ent e1 ?_
    (refine sw_skip ?_; refine sn_then ?_; refine sw_seq ?_; refine sw_block ?_; refine sw_seq ?_; refine sw_region ?_; (iterate 2 refine so_1 rfl ?_); refine so_2 rfl (by omega) ?_)
    refine so_ld 2 rfl rfl rfl rfl rfl rfl hq rfl ?_
    (refine so_1 rfl ?_; refine so_nil ?_; refine sn_then ?_; refine sw_seq ?_; refine sw_region ?_; refine so_1 rfl ?_)
    refine so_callE rfl rfl rfl (NStart hN) ?_
    ((iterate 5 refine so_1 rfl ?_); refine so_nil ?_; refine sn_then ?_; refine sw_seq ?_; refine sw_region ?_; (iterate 4 refine so_1 rfl ?_))
    refine so_callE rfl rfl rfl (NWrite hN (is_vl hb (k := 3) rfl)) ?_
    ((iterate 5 refine so_1 rfl ?_); refine so_nil ?_; refine sn_then ?_; refine sw_seq ?_; refine sw_region ?_; (iterate 2 refine so_1 rfl ?_))
    refine so_callE rfl rfl rfl (NOffset hN) ?_
    ((iterate 5 refine so_1 rfl ?_); refine so_nil ?_; refine sn_then ?_; refine sw_seq ?_; refine sw_region ?_; (iterate 2 refine so_1 rfl ?_))
    refine so_ldA 3 rfl rfl rfl rfl rfl rfl (segID hid) rfl ?_
    refine so_callE rfl rfl rfl (NFinish hN hid) ?_
    ((iterate 3 refine so_1 rfl ?_))
    refine so_new rfl rfl rfl rfl rfl fun g18 => ?_
    (refine so_s1 0 rfl rfl rfl rfl ?_; refine so_1 rfl ?_; refine so_nil ?_; refine sn_then ?_; refine sw_seq ?_; refine sw_region ?_; (iterate 17 refine so_1 rfl ?_); refine so_2 rfl (by (unfold I64; omega)) ?_; refine so_1 rfl ?_; refine so_2 rfl (by (unfold I64; omega)) ?_; (iterate 3 refine so_1 rfl ?_); refine so_l 0 rfl rfl rfl ?_; refine so_1 rfl ?_)
    refine so_callE rfl rfl rfl (SameSession_S (fun w _ => VL.nil _ w) (fun w _ => VL.nil _ w)) ?_
    refine so_ent (ent_keep 1 [] rfl rfl) ?_
    ((iterate 5 refine so_1 rfl ?_))
    refine so_callE rfl rfl rfl (NCancel hN) ?_
    ((iterate 4 refine so_1 rfl ?_))
    refine so_callE rfl rfl rfl (NNext hN) ?_
    ((iterate 4 refine so_1 rfl ?_))
    refine so_callE rfl rfl rfl (NList hN) ?_
    ((iterate 3 refine so_1 rfl ?_); refine so_nil ?_; refine sn_then ?_; refine sw_cond_f rfl ?_; refine sw_skip ?_; refine sn_block ?_; refine sn_then ?_; refine sw_region ?_; refine so_1 rfl ?_; refine so_2 rfl (by (unfold I64; omega)) ?_; refine so_1 rfl ?_; refine so_nil ?_)
    exact sn_round (i + 1) ⟨rfl, rfl, rfl, rfl, rfl, rfl, trivial⟩ e2 (by omega) (by omega)
  · (refine sw_exit ?_; refine sn_then_exit ?_; refine sn_loop_exit ?_; refine sn_block_exit ?_; refine sn_then ?_; refine sw_seq ?_; refine sw_region ?_)
    refine so_callE rfl rfl rfl (awake_U) ?_
    (refine so_1 rfl ?_; refine so_nil ?_; refine sn_then ?_; refine sw_ret ?_)
    refine sn_ret rfl (.tmp rfl .nil) (ent_keep 4 [] rfl rfl) ?_
    exact ⟨rfl, rfl⟩
end Go.Proofs.Ytjfileaidgknjaa
/- Uploads, part thirty-three: UploadPieces. Conditions: the arguments read as the row says. -/
namespace Go.Proofs.Ytjfileaidgknjaa
open Go Go.Eng Go.RowKit Go.WideMaps

theorem strI_on {l : List Int} (h : byteW l) : strI (strOfNums l) = l := by
  have : (strOfNums l).data.toList = l.map fun n => UInt8.ofNat n.toNat := by simp [strOfNums]
  rw [strI, this, List.map_map]
  conv => rhs; rw [← List.map_id l]
  apply List.map_congr_left
  intro n hn
  have := h n hn
  simp only [Function.comp, id, UInt8.toNat_ofNat']
  omega
theorem strOf_size {l : List Int} (h : byteW l) : (strOfNums l).size = l.length := by rw [← strI_length, strI_on h]
theorem vl_cut {b : World} {F : List SP} {A : Option Addr} {c at' to' : Nat} {xs : List Int} (hv : ∀ w, Sat b F w → VL (Value.int .u8) w (.slice A xs.length c) xs) (h1 : at' ≤ to') (h2 : to' ≤ xs.length) (hc : xs.length ≤ c) (hm : c ≤ 9223372036854775807) (hz : A = none → c = 0) :
    ∀ w, Sat b F w → VL (Value.int .u8) w (.slice (if c = at' then A else A.map fun x => x.add (at' * 1)) (to' - at') (c - at')) ((xs.take to').drop at') := fun w H =>
  VL.sub (hv w H) h1 h2 (by omega) (by omega) (fun hlt bk off hA => by
    rw [if_neg (by omega), hA]
    simp only [Option.map_some, Addr.add, Nat.mul_one]
    split
    · rename_i h0; simp [h0]
    · rfl) (fun hn => by
    split at hn
    · omega
    · simp only [Option.map_eq_none_iff] at hn
      have := hz hn; omega)
theorem take_cut {xs : List Int} {a t : Nat} (h1 : a ≤ t) (h2 : t ≤ xs.length) : xs.take a ++ (xs.take t).drop a = xs.take t := by
  have : (xs.take t).take a = xs.take a := by rw [List.take_take, Nat.min_eq_left h1]
  rw [← this]; exact List.take_append_drop _ _
def abS : ByteArray := ⟨#[97, 47, 98]⟩
def cS : ByteArray := ⟨#[99]⟩
abbrev lp (xs ys : List Int) : List Se := [(1, abS, xs), (2, cS, ys)]
theorem lp_1 : staT 1 [] ⟨#[97, 47, 98]⟩ = ((1, 0), (2, [(1, abS, [])])) := by decide +kernel
theorem lp_2 : staT 2 [(1, abS, [])] ⟨#[99]⟩ = ((2, 0), (3, lp [] [])) := by decide +kernel
section
variable {w : Int} {xs ys zs : List Int}
theorem lp_i1 : ixS (lp xs ys) 1 = 0 := by simp [ixS, List.findIdx_cons]
theorem lp_i2 : ixS (lp xs ys) 2 = 1 := by simp [ixS, List.findIdx_cons]
theorem lp_h1 : ixS (lp xs ys) 1 < (lp xs ys).length := by rw [lp_i1]; exact Nat.zero_lt_two
theorem lp_h2 : ixS (lp xs ys) 2 < (lp xs ys).length := by rw [lp_i2]; exact Nat.one_lt_two
theorem lp_d1 : ((1, abS, xs) : Se) = (lp xs ys)[ixS (lp xs ys) 1]'lp_h1 := by simp only [lp_i1]; rfl
theorem lp_d2 : ((2, cS, ys) : Se) = (lp xs ys)[ixS (lp xs ys) 2]'lp_h2 := by simp only [lp_i2]; rfl
theorem lp_gd (h : 1 ≤ w ∧ w ≤ 32) (hx : xs.length ≤ 4096) (hy : ys.length ≤ 4096) : Gd w 3 (lp xs ys) := ⟨h.1, h.2, by decide, by decide, by simp, by simp, by simp; exact ⟨hx, hy⟩, by simp⟩
theorem pw1 {s : ByteArray} {a : Nat} (ha : xs.length = a) : wrT (lp xs ys) 1 ((a : Int) + 1) (strI s) = (((a : Int), 13), lp xs ys) := by
  rw [wrT_1 lp_h1 lp_d1 (by dsimp only; omega)]
  dsimp only; rw [ha]
theorem pw2 {s : ByteArray} {a t : Nat} (ha : xs.length = a) (hs : strI s = zs) (ht : zs.length = t) (h : a + t ≤ 4096) : wrT (lp xs ys) 1 (a : Int) (strI s) = (((a : Int) + t, 0), lp (xs ++ zs) ys) := by
  rw [hs, wrT_3 lp_h1 lp_d1 (by dsimp only; omega) (by dsimp only; omega)]
  simp only [lp_i1, ha, ht]; rfl
theorem pw3 {s : ByteArray} {a : Nat} (ha : ys.length = a) (hs : strI s = [121]) (h : a + 1 ≤ 4096) : wrT (lp xs ys) 2 (a : Int) (strI s) = (((a : Int) + 1, 0), lp xs (ys ++ [121])) := by
  rw [hs, wrT_3 lp_h2 lp_d2 (by dsimp only; omega) (by dsimp only; simp; omega)]
  simp only [lp_i2, ha]; rfl
theorem pw4 {s : ByteArray} {a t : Nat} (ha : xs.length = a) (ht : (strI s).length = t) (h : 4096 < a + t) : wrT (lp xs ys) 1 (a : Int) (strI s) = (((a : Int), 4), lp xs ys) := by
  rw [wrT_2 lp_h1 lp_d1 (by dsimp only; omega) (by dsimp only; omega)]
  dsimp only; rw [ha]
theorem pf : finT w (lp xs ys) 1 (cutR (sumM xs) w) = (((1, abS, xs), 0), [(2, cS, ys)]) := by
  rw [finT_1 lp_h1 lp_d1 rfl]
  simp only [lp_i1]; rfl
end
theorem vlw_of_rd {W : World} {v : Value} {x : Value × List Int} (h : rdL 1 (rdI .u8) W [v] x) : VL (Value.int .u8) W v x.2 ∧ byteW x.2 := by
  obtain ⟨h1, h2, h3⟩ := rdI_list h
  simp only [List.cons.injEq, and_true] at h1
  subst h1
  exact ⟨h2, byteW_of h3⟩
set_option maxRecDepth 20000 in
set_option maxHeartbeats 4000000 in
theorem walk_UploadPieces {W : World} {v0 v1 : Value} {xs ps : List Int} {wd : Int} (h0 : VL (Value.int .u8) W v0 xs ∧ byteW xs) (h1 : VL (Value.int .i64) W v1 ps) : Calls Try.prog n_entrepotlaw09_UploadPieces #[v0, v1, .int .i64 wd] W (fun e w' => e = .returned (.bool true) ∧ Ext W w') := by
  refine law_of (args := [v0, v1, .int .i64 wd]) ?_
  obtain ⟨h0, hbw⟩ := h0
  obtain ⟨A, c, rfl, k1, k2, k3, k4⟩ := h0.form
  obtain ⟨A1, c1, rfl, q1, q2, q3, q4⟩ := h1.form
  refine enterS F_entrepotlaw09_UploadPieces rfl rfl rfl ?_
  (refine sw_seq ?_; refine sw_region ?_; refine so_1 rfl ?_; refine so_nil ?_; refine sn_then ?_; refine sw_seq ?_; refine sw_region ?_)
  refine so_callE rfl rfl rfl (Known_S) ?_
  (refine so_1 rfl ?_; refine so_nil ?_; refine sn_then ?_; (iterate 2 refine sw_seq ?_); refine sw_region ?_; (iterate 4 refine so_1 rfl ?_))
  refine so_if 22 rfl (fun h => ?_) (fun h => ?_)
  · ((iterate 4 refine so_1 rfl ?_); refine so_nil ?_; refine sn_then ?_; refine sw_cond_t rfl ?_; refine sw_seq ?_; refine sw_region ?_; (iterate 2 refine so_1 rfl ?_); refine so_nil ?_; refine sn_then ?_; refine sw_ret ?_; refine sn_then_ret ?_)
    refine sn_ret rfl (.tmp rfl .nil) (Ent.refl _) ?_
    exact ⟨rfl, rfl⟩
  ((iterate 4 refine so_1 rfl ?_); refine so_nil ?_; refine sn_then ?_)
  refine sw_if rfl (fun h2 => ?_) (fun h2 => ?_)
  · (refine sw_seq ?_; refine sw_region ?_; (iterate 2 refine so_1 rfl ?_); refine so_nil ?_; refine sn_then ?_; refine sw_ret ?_; refine sn_then_ret ?_)
    refine sn_ret rfl (.tmp rfl .nil) (Ent.refl _) ?_
    exact ⟨rfl, rfl⟩
  (refine sw_skip ?_; refine sn_then ?_; refine sw_seq ?_; refine sw_region ?_; refine so_1 rfl ?_)
  refine so_callE rfl rfl rfl (Pick_S (by unfold I64; omega)) ?_
  have e32 : (if (32 : Int) ≤ 0 then 0 else wd % 32) = wd % 32 := if_neg (by decide)
  rw [e32]
  have hW0 : 1 ≤ 1 + wd % 32 ∧ 1 + wd % 32 ≤ 32 := by omega
  (refine so_2 rfl (by (unfold I64; omega)) ?_; refine so_1 rfl ?_; refine so_nil ?_; refine sn_then ?_; refine sw_seq ?_; refine sw_region ?_; refine so_1 rfl ?_)
  generalize 1 + wd % 32 = w at *
  refine so_call rfl rfl rfl (uNew_X hW0) ?_
  rintro _ _ ⟨g, rfl, rfl⟩
  ((iterate 5 refine so_1 rfl ?_); refine so_nil ?_; refine sn_then ?_; refine sw_seq ?_; refine sw_region ?_; (iterate 2 refine so_1 rfl ?_))
  have hcl := cutR_len (sumM xs) w (sumM_len xs)
  have hcE : cutE w = 0 := by unfold cutE; rw [if_neg (by omega)]
  have hOf : ∀ {b : World} {F : List SP} {vb : Value}, (∀ w, Sat b F w → VL (Value.int .u8) w vb xs) → SC Try.prog n_sha_Of [vb, .int .i64 w] b F (fun v F' => v = .tuple ⟨[idV (cutR (sumM xs) w), .int .i64 0]⟩ ∧ F' = F) := fun h => by
    have := Of_S (w := w) (by omega) h
    rwa [hcE] at this
  have hU : ∀ (b : World) (F : List SP) (ys : List Int) (k : Nat), ys.length ≤ 4096 → k ≤ 100000 → SC Try.prog n_p_upload_Table_Finish [.pointer (some ⟨g, 0, none⟩), .int .i64 1, idV (cutR (sumM xs) w)] b (upX g w 3 (lp xs ys) k :: F) (fun v F' => ∃ bv, v = .tuple ⟨[.agg ⟨ssC 1 abS bv⟩, .int .i64 0]⟩ ∧ F' = rB bv xs :: upX g w 3 [(2, cS, ys)] k :: F) := fun b F ys k hy hk => by
    have := uFinish_X (b := b) (F := F) (g := g) (k := k) (lp_gd (xs := xs) (ys := ys) hW0 (by omega) hy) (x := 1) hcl hk
    rwa [pf] at this
  generalize cutR (sumM xs) w = d at *
  refine so_callE rfl rfl rfl (hOf (is_vl h0 (k := 1) rfl)) ?_
  ((iterate 3 refine so_1 rfl ?_))
  refine so_new rfl rfl rfl rfl rfl fun g10 => ?_
  refine so_stW 0 rfl rfl rfl rfl rfl rfl rfl (by rw [u8s_len, hcl]; rfl) (u8s_one _) (by simp [hcl]) ?_
  (refine so_1 rfl ?_; refine so_nil ?_; refine sn_then ?_; (iterate 2 refine sw_seq ?_); refine sw_region ?_; (iterate 12 refine so_1 rfl ?_))
  refine so_call rfl rfl rfl ((starts_T (gd_new hW0) lp_1).ent (ent_keep 2 [1, 0] rfl rfl)) ?_
  rintro _ _ ⟨rfl, rfl⟩
  ((iterate 4 refine so_1 rfl ?_))
  refine so_call rfl rfl rfl (starts_T (⟨hW0.1, hW0.2, by decide, by decide, List.pairwise_singleton _ _, by simp, by simp, by simp⟩) lp_2) ?_
  rintro _ _ ⟨rfl, rfl⟩
  ((iterate 2 refine so_1 rfl ?_); refine so_nil ?_; refine sn_then ?_; refine sw_cond_f rfl ?_; refine sw_skip ?_; refine sn_then ?_; refine sw_seq ?_; refine sw_region ?_; refine so_1 rfl ?_; refine so_nil ?_; refine sn_then ?_; (iterate 2 refine sw_seq ?_); refine sw_region ?_; refine so_1 rfl ?_; refine so_nil ?_; refine sn_then ?_; refine sw_block ?_)
  refine sw_loop (S := Nat × Nat) (fun s => [(0, .slice A xs.length c), (1, .slice A1 ps.length c1), (7, .bool true), (8, .pointer (some ⟨g, 0, none⟩)), (10, .pointer (some ⟨g10, 0, none⟩)), (12, .int .i64 (s.2 : Int)), (13, .int .i64 (s.1 : Int))])
    (fun s => upX g w 3 (lp (xs.take s.2) (List.replicate s.1 121)) (3 * s.1) :: pt g10 t_api_ID (u8s d) :: [Is W]) (fun s => s.1 ≤ ps.length + 1 ∧ s.2 ≤ xs.length ∧ (s.1 = ps.length + 1 → s.2 = xs.length)) (fun s => ps.length + 1 - s.1) (0, 0) ⟨rfl, rfl, rfl, rfl, rfl, rfl, rfl, trivial⟩ (Ent.refl _)
    ⟨Nat.zero_le _, Nat.zero_le _, fun h => by cases h⟩ ?_
  rintro ⟨i, a⟩ ⟨hi, ha, hend⟩
  dsimp only at hi ha hend ⊢
  ((iterate 2 refine sw_seq ?_); refine sw_region ?_; (iterate 4 refine so_1 rfl ?_); refine so_nil ?_; refine sn_then ?_)
  refine sw_if rfl (fun h3 => ?_) (fun h3 => ?_)
  · (refine sw_skip ?_; refine sn_then ?_; refine sw_seq ?_; refine sw_block ?_; refine sw_seq ?_; refine sw_region ?_; (iterate 3 refine so_1 rfl ?_); refine so_2 rfl (by (unfold I64; omega)) ?_; refine so_1 rfl ?_; refine so_nil ?_; refine sn_then ?_; (iterate 2 refine sw_seq ?_); refine sw_region ?_; (iterate 4 refine so_1 rfl ?_); refine so_nil ?_; refine sn_then ?_)
    refine sw_cutT (S := Nat) (fun t => [(0, .slice A xs.length c), (1, .slice A1 ps.length c1), (7, .bool true), (8, .pointer (some ⟨g, 0, none⟩)), (10, .pointer (some ⟨g10, 0, none⟩)), (12, .int .i64 (a : Int)), (13, .int .i64 (i : Int)), (14, .int .i64 (t : Int))])
      (fun _ => upX g w 3 (lp (xs.take a) (List.replicate i 121)) (3 * i) :: pt g10 t_api_ID (u8s d) :: [Is W]) (fun t => a + t ≤ xs.length ∧ (i = ps.length → a + t = xs.length)) (fun t ht => ?_) (fun fin => ?_)
    · obtain ⟨ht1, ht2⟩ := ht
      have hla : (xs.take a).length = a := by rw [List.length_take]; omega
      have hlr : (List.replicate i (121 : Int)).length = i := List.length_replicate
      have hlz : ((xs.take (a + t)).drop a).length = t := by rw [List.length_drop, List.length_take]; omega
      have hbz : byteW ((xs.take (a + t)).drop a) := fun x hx => hbw x (List.mem_of_mem_take (List.mem_of_mem_drop hx))
      have hzz := strI_on hbz
      have hg1 := lp_gd (w := w) (xs := xs.take a) (ys := List.replicate i 121) hW0 (by omega) (by omega)
      have hg2 := lp_gd (w := w) (xs := xs.take a ++ (xs.take (a + t)).drop a) (ys := List.replicate i 121) hW0 (by rw [List.length_append]; omega) (by omega)
      ((iterate 2 refine sw_seq ?_); refine sw_region ?_; (iterate 2 refine so_1 rfl ?_); refine so_2 rfl (by (unfold I64; omega)) ?_; refine so_1 rfl ?_)
      refine so_call rfl rfl rfl (writes_T hg1 (by omega) (by decide) (pw1 hla)) ?_
      rintro _ _ ⟨rfl, rfl⟩
      ((iterate 8 refine so_1 rfl ?_); refine so_2 rfl (by (unfold I64; omega)) ?_; refine so_2 rfl (by omega) ?_)
      refine so_know 97 (.slice (if c = a then A else A.map fun x => x.add (a * 1)) (a + t - a) (c - a)) rfl ?_ ?_
      · have e1 : ((a : Int) + (t : Int)).toNat = a + t := by omega
        rw [e1, Int.toNat_natCast]
      refine so_b2s rfl rfl rfl rfl rfl rfl rfl (vl_cut (is_vl h0 (k := 2) rfl) (by omega) (by omega) k1 k2 k3) ?_
      ((iterate 2 refine so_1 rfl ?_); refine so_2 rfl (by (unfold I64; omega)) ?_)
      refine so_call rfl rfl rfl (writes_T hg1 (by omega) (by rw [strOf_size hbz]; omega) (pw2 hla hzz hlz (by omega))) ?_
      rintro _ _ ⟨rfl, rfl⟩
      ((iterate 6 refine so_1 rfl ?_); refine so_2 rfl (by (unfold I64; omega)) ?_)
      refine so_call rfl rfl rfl (writes_T hg2 (by omega) (by decide) (pw3 hlr rfl (by omega))) ?_
      rintro _ _ ⟨rfl, rfl⟩
      ((iterate 2 refine so_1 rfl ?_); refine so_nil ?_; refine sn_then ?_; refine sw_cond_f rfl ?_; refine sw_skip ?_; refine sn_then ?_; refine sw_region ?_; (iterate 2 refine so_1 rfl ?_); refine so_2 rfl (by (unfold I64; omega)) ?_; refine so_1 rfl ?_; refine so_nil ?_; refine sn_block ?_; refine sn_then ?_; refine sw_region ?_; refine so_1 rfl ?_; refine so_2 rfl (by (unfold I64; omega)) ?_; refine so_1 rfl ?_; refine so_nil ?_)
      refine sn_round (i + 1, a + t) ⟨rfl, rfl, rfl, rfl, rfl, rfl, rfl, trivial⟩ ?_ ⟨by dsimp only; omega, ht1, fun e => ht2 (by dsimp only at e; omega)⟩ (by dsimp only; omega)
      dsimp only
      rw [take_cut (by omega) ht1, ← List.replicate_succ']
      exact Ent.refl _
    · refine sw_if rfl (fun h4 => ?_) (fun h4 => ?_)
      · have hi4 : i < ps.length := by omega
        obtain ⟨bk, off, rfl⟩ := q4 (by omega)
        have hpk : ∃ k : Nat, (if (xs.length : Int) - a + 1 ≤ 0 then 0 else ps[i] % ((xs.length : Int) - a + 1)) = (k : Int) ∧ k ≤ xs.length - a := by
          have p1 := Int.emod_nonneg ps[i] (show (xs.length : Int) - a + 1 ≠ 0 by omega)
          have p2 := Int.emod_lt_of_pos ps[i] (show 0 < (xs.length : Int) - a + 1 by omega)
          refine ⟨(ps[i] % ((xs.length : Int) - a + 1)).toNat, ?_, ?_⟩
          · rw [if_neg (by omega)]; omega
          · omega
        obtain ⟨k, hk1, hk2⟩ := hpk
        refine sw_region ?_
        ((iterate 2 refine so_1 rfl ?_); refine so_2 rfl (by omega) ?_)
        refine so_rd rfl (fun w H => ex_load rfl rfl rfl (by rw [mulz_eq]; simpa using VL.at (is_vl h1 (k := 2) rfl w H) i hi4)) rfl ?_
        (refine so_1 rfl ?_; refine so_2 rfl (by (unfold I64; omega)) ?_)
        refine so_callE rfl rfl rfl (Pick_S (by unfold I64; omega)) ?_
        rw [hk1]
        refine so_1 rfl ?_
        refine so_nil (fin k _ _ ⟨by omega, fun e => by omega⟩ ⟨rfl, rfl, rfl, rfl, rfl, rfl, rfl, rfl, trivial⟩ (Ent.refl _))
      · refine sw_know 14 (.int .i64 ((xs.length - a : Nat) : Int)) rfl (congrArg (Value.int .i64) (by omega)) ?_
        refine sw_skip (fin (xs.length - a) _ _ ⟨by omega, fun e => by omega⟩ ⟨rfl, rfl, rfl, rfl, rfl, rfl, rfl, rfl, trivial⟩ (Ent.refl _))
  have ha2 : a = xs.length := hend (by omega)
  have hi2 : i = ps.length + 1 := by omega
  subst ha2 hi2
  rw [List.take_length]
  have hlr : (List.replicate (ps.length + 1) (121 : Int)).length = ps.length + 1 := List.length_replicate
  generalize List.replicate (ps.length + 1) (121 : Int) = ys at *
  have hg1 := lp_gd (w := w) (xs := xs) (ys := ys) hW0 (by omega) (by omega)
  (refine sw_exit ?_; refine sn_then_exit ?_; refine sn_loop_exit ?_; refine sn_block_exit ?_; refine sn_then ?_; (iterate 2 refine sw_seq ?_); refine sw_region ?_; (iterate 3 refine so_1 rfl ?_); (iterate 2 refine so_2 rfl (by (unfold I64; omega)) ?_))
  refine so_make (sz := 1) (n := 4097 - xs.length) (cs := u8s (List.replicate (4097 - xs.length) 0)) rfl rfl rfl rfl rfl rfl rfl rfl (by omega) (by omega) (by rw [u8s, List.map_replicate]; exact made_one _ _) fun gm => ?_
  have hb0 : byteW (List.replicate (4097 - xs.length) 0) := rep0_byte _
  have hl0 : (List.replicate (4097 - xs.length) (0 : Int)).length = 4097 - xs.length := List.length_replicate
  refine so_b2s (xs := List.replicate (4097 - xs.length) 0) rfl rfl rfl rfl rfl rfl rfl (fun w H => by
    have := (H.oat (k := 0) rfl).sl
    unfold VL; rw [hl0]; exact this) ?_
  refine so_ent (ent_keep 2 [1] rfl rfl) ?_
  (refine so_1 rfl ?_)
  refine so_call rfl rfl rfl (writes_T hg1 (by omega) (by rw [strOf_size hb0, hl0]; omega) (pw4 (t := 4097 - xs.length) rfl (by rw [strI_on hb0, hl0]) (by omega))) ?_
  rintro _ _ ⟨rfl, rfl⟩
  (refine so_1 rfl ?_; refine so_nil ?_; refine sn_then ?_; refine sw_cond_f rfl ?_; refine sw_skip ?_; refine sn_then ?_; refine sw_seq ?_; refine sw_region ?_; refine so_1 rfl ?_)
  refine so_ldA 1 rfl rfl rfl rfl rfl rfl (segID hcl) rfl ?_
  refine so_call rfl rfl rfl (hU _ _ ys _ (by omega) (by omega)) ?_
  rintro _ _ ⟨bv, rfl, rfl⟩
  refine so_fact (fun w H => (H.oat (k := 0) rfl).form) ?_
  rintro ⟨A7, c7, rfl, _, _, _⟩
  ((iterate 3 refine so_1 rfl ?_))
  refine so_new rfl rfl rfl rfl rfl fun g15 => ?_
  (refine so_s1 0 rfl rfl rfl rfl ?_; refine so_1 rfl ?_; refine so_nil ?_; refine sn_then ?_; refine sw_seq ?_; refine sw_region ?_; refine so_1 rfl ?_)
  have hg2 : Gd w 3 [(2, cS, ys)] := hg1.erase 0
  refine so_call rfl rfl rfl ((uList_X hg2 (by omega)).ent (ent_keep 4 [2, 0, 1, 3] rfl rfl)) ?_
  rintro v F' rfl
  refine so_opn ?_
  intro D hD
  obtain ⟨e, rfl, he⟩ : ∃ e : Ds, D = [e] ∧ e.se = (2, cS, ys) := by
    cases D with
    | nil => cases hD
    | cons e D =>
      cases D with
      | nil => exact ⟨e, rfl, by simpa using hD⟩
      | cons e' D => simp at hD
  obtain ⟨en, er, ev', eb⟩ := e
  simp only [Ds.se, Prod.mk.injEq] at he
  obtain ⟨rfl, rfl, rfl⟩ := he
  refine so_fact (fun w H => (H.oat (k := 0) rfl).form) ?_
  rintro ⟨A9, c9, rfl, r1, _, r3⟩
  obtain ⟨gg, oo, rfl⟩ := r3 (by simp at r1; omega)
  refine so_fact (fun w H => (dsF_vl (D := [⟨2, cS, ev', eb⟩]) (k := 1) rfl (j := 0) (by simp) w H).form) ?_
  rintro ⟨A8, c8, hv8, _, _, _⟩
  dsimp only [List.getElem_cons_zero] at hv8
  subst hv8
  (refine so_1 rfl ?_; refine so_nil ?_; refine sn_then ?_; refine sw_seq ?_; refine sw_region ?_; (iterate 6 refine so_1 rfl ?_); refine so_l 3 rfl rfl rfl ?_; (iterate 2 refine so_1 rfl ?_))
  refine so_callE rfl rfl rfl (SameSession_S (vlB (k := 4) rfl) (is_vl h0 (k := 6) rfl)) ?_
  ((iterate 8 refine so_1 rfl ?_); refine so_2 rfl (by (simp; done)) ?_; refine so_1 rfl ?_)
  refine so_rd rfl (fun w H => ex_load rfl rfl rfl (rSn_cell (D := [⟨2, cS, .slice A8 eb.length c8, eb⟩]) (k := 0) (i := 0) (j := 0) rfl rfl (by simp) (by decide) w H)) rfl ?_
  ((iterate 4 refine so_1 rfl ?_); refine so_2 rfl (by (simp; done)) ?_; refine so_1 rfl ?_)
  refine so_rd rfl (fun w H => ex_load rfl rfl rfl (rSn_cell (D := [⟨2, cS, .slice A8 eb.length c8, eb⟩]) (k := 0) (i := 0) (j := 2) rfl rfl (by simp) (by decide) w H)) rfl ?_
  ((iterate 3 refine so_1 rfl ?_); refine so_2 rfl (by (unfold I64; omega)) ?_; (iterate 3 refine so_1 rfl ?_); refine so_nil ?_; refine sn_then ?_; refine sw_ret ?_)
  refine sn_ret rfl (.tmp rfl .nil) (ent_keep 6 [] rfl rfl) ?_
  refine ⟨congrArg Value.bool (decide_eq_true ?_), rfl⟩
  omega
end Go.Proofs.Ytjfileaidgknjaa
/- Uploads, part thirty-four: an act at one table, and at two that stand alike. Conditions: none. -/
namespace Go.Proofs.Ytjfileaidgknjaa
open Go Go.Eng Go.RowKit Go.WideMaps

theorem ex_eqp {P : Program} {E : List (Nat × Value)} {ty : TypeId} {w : World} {t t' te : TypeId} {j : TypeInfo} {x y : Operand} {g1 g2 t1 t2 : Nat} {c1 c2 : List Value} (hp : P.underlying t = some (.pointer te)) (hte : P.info? te = some j) (hsz : j.size ≠ 0)
    (hx : ev E x = some (.pointer (some ⟨g1, 0, none⟩))) (hy : ev E y = some (.pointer (some ⟨g2, 0, none⟩))) (b1 : Blk w g1 t1 c1) (b2 : Blk w g2 t2 c2) : Ex P E (.binOp .eql t x y t') ty w (.bool (decide (g1 = g2))) w := by
  intro ρ o hρ ho _
  have hr : (binOp .eql t (.pointer (some ⟨g1, 0, none⟩)) (.pointer (some ⟨g2, 0, none⟩))).run P w = .ok (.bool (decide (g1 = g2))) w := by
    by_cases e : g1 = g2
    · subst e; rw [Go.run_eql_ptr_same w _ hp hte]; simp
    · rw [Go.run_eql_ptr_other (a := ⟨g1, 0, none⟩) (b := ⟨g2, 0, none⟩) w hp hte hsz (fun h => e (congrArg Addr.block h)) b1 b2]; simp [e]
  have hg : (eqGuard .eql t x y (.pointer (some ⟨g1, 0, none⟩)) (.pointer (some ⟨g2, 0, none⟩))).run P w = .ok () w := by
    simp [eqGuard]
  simp [execOp, hg, ho, hρ _ _ hx, hρ _ _ hy, hr, Result.andThen]
theorem up_blk {b : World} {F : List SP} {g k : Nat} {w nx : Int} {l : List Se} {W : World} (H : Sat b (upX g w nx l k :: F) W) : ∃ c, Blk W g t_upload_Table c := by
  obtain ⟨s, hs, H1⟩ := exP_open H
  exact ⟨_, H1.blk (k := 0) rfl⟩
theorem up2_blk {b : World} {F : List SP} {g k g2 k2 : Nat} {w nx w2 nx2 : Int} {l l2 : List Se} {W : World} (H : Sat b (upX g w nx l k :: upX g2 w2 nx2 l2 k2 :: F) W) : g2 ≠ g ∧ (∃ c, Blk W g t_upload_Table c) ∧ ∃ c, Blk W g2 t_upload_Table c := by
  obtain ⟨s, hs, H1⟩ := exP_open H
  obtain ⟨s2, hs2, H2⟩ := exP_open (H1.ent (ent_keep 4 [3, 0, 1, 2] rfl rfl))
  exact ⟨H2.ne (i := 0) (j := 3) rfl rfl (by decide), ⟨_, H2.blk (k := 3) rfl⟩, ⟨_, H2.blk (k := 0) rfl⟩⟩
/-- The digest that is handed in. -/
def dgT (l : List Se) (n wd : Int) : List Int := l.foldl (fun acc s => if s.1 = n then cutR (sumM s.2.2) wd else acc) (List.replicate 32 0)
theorem dgT_len (l : List Se) (n wd : Int) : (dgT l n wd).length = 32 := by
  have : ∀ (l : List Se) (a : List Int), a.length = 32 → (l.foldl (fun acc s => if s.1 = n then cutR (sumM s.2.2) wd else acc) a).length = 32 := fun l => by
    induction l with
    | nil => exact fun a h => h
    | cons s l ih => intro a h; exact ih _ (by dsimp only; split; exact cutR_len _ _ (sumM_len _); exact h)
  exact this l _ rfl
def doneT (w nx : Int) (l : List Se) (a : Ac) : (Int × Int) × (Int × List Se) :=
  if a.k = 0 then staT nx l a.r
  else if a.k = 1 then ((wrT l a.n a.o a.b).1, (nx, (wrT l a.n a.o a.b).2))
  else if a.k = 2 then (((finT w l a.n (dgT l a.n (1 + a.a % 32))).1.1.2.2.length, (finT w l a.n (dgT l a.n (1 + a.a % 32))).1.2), (nx, (finT w l a.n (dgT l a.n (1 + a.a % 32))).2))
  else if a.k = 3 then ((0, (canT l a.n).1), (nx, (canT l a.n).2))
  else (offT l a.n, (nx, l))
theorem Gd.done {w nx : Int} {l : List Se} {a : Ac} (h : Gd w nx l) : Gd w (doneT w nx l a).2.1 (doneT w nx l a).2.2 := by
  unfold doneT
  split
  · exact h.sta
  split
  · exact h.wr
  split
  · exact h.fin
  split
  · exact h.can
  exact h
/-- Names and numbers of sessions. -/
def Nm (l : List Se) : Prop := ∀ s ∈ l, 0 < s.1 ∧ repoF (strI s.2.1) = (0, 0)
theorem Nm.erase {l : List Se} (h : Nm l) (i : Nat) : Nm (l.eraseIdx i) := fun s hs => h s (List.mem_of_mem_eraseIdx hs)
theorem Nm.done {w nx : Int} {l : List Se} {a : Ac} (hg : Gd w nx l) (h : Nm l) : Nm (doneT w nx l a).2.2 := by
  unfold doneT
  split
  · unfold staT
    split
    case isFalse => exact h
    case isTrue e =>
      unfold startE at e
      split at e
      · cases e
      rename_i hr
      intro s hs
      rcases List.mem_append.1 hs with hs | hs
      · exact h s hs
      · rw [List.mem_singleton.1 hs]
        exact ⟨by have := hg.n0; dsimp only; omega, by simpa using hr⟩
  split
  · dsimp only
    unfold wrT
    split
    · rename_i hi
      split
      · exact h
      split
      · exact h
      intro s hs
      rcases List.mem_or_eq_of_mem_set hs with hs | rfl
      · exact h s hs
      · have := h _ (List.getElem_mem hi)
        exact ⟨this.1, this.2⟩
    · exact h
  split
  · dsimp only
    unfold finT
    split
    · split
      · exact h.erase _
      · exact h
    · exact h
  split
  · dsimp only
    unfold canT
    split
    · exact h.erase _
    · exact h
  exact h
theorem sesOk_of {nx : Int} : ∀ {l : List Se} {last : Int}, (∀ s ∈ l, last < s.1 ∧ s.1 < nx ∧ s.2.2.length ≤ 4096 ∧ repoF (strI s.2.1) = (0, 0)) → l.Pairwise (fun a c => a.1 < c.1) → sesOk nx last l = true
  | [], _, _, _ => rfl
  | d :: l, last, h, hp => by
    have hd := h d List.mem_cons_self
    obtain ⟨p1, p2⟩ := List.pairwise_cons.1 hp
    simp only [sesOk, Bool.and_eq_true]
    exact ⟨decide_eq_true hd, sesOk_of (fun s hs => ⟨p1 s hs, (h s (List.mem_cons_of_mem _ hs)).2⟩) p2⟩
theorem sesOk_gd' {w nx : Int} {l : List Se} (hg : Gd w nx l) (hn : Nm l) : sesOk nx 0 l = true := sesOk_of (fun s hs => ⟨(hn s hs).1, hg.lt s hs, hg.bs s hs, (hn s hs).2⟩) hg.srt
section
variable {b : World} {F : List SP} {g g2 k k2 : Nat} {w nx : Int} {l : List Se}
set_option maxRecDepth 20000 in
set_option maxHeartbeats 2000000 in
theorem done_S (hg : Gd w nx l) {a : Ac} (hv : ∀ w, Sat b F w → VL (Value.int .u8) w a.bv a.b) (hbl : a.b.length ≤ 5000) (hk : k < 100000) :
    SC Try.prog n_entrepotlaw09_done [.pointer (some ⟨g, 0, none⟩), .agg ⟨acC a⟩] b (upX g w nx l k :: F)
      (fun v F' => v = .tuple ⟨[.int .i64 (doneT w nx l a).1.1, .int .i64 (doneT w nx l a).1.2]⟩ ∧ ∃ k', k' ≤ k + 1 ∧ F' = upX g w (doneT w nx l a).2.1 (doneT w nx l a).2.2 k' :: F) := by
  obtain ⟨ak, an, ao, aa, at', ar, av, ab⟩ := a
  dsimp only at hbl
  refine enterS F_entrepotlaw09_done rfl rfl rfl ?_
  refine sw_fact (fun w H => (hv w (H.ent (ent_keep 1 [] rfl rfl))).form) ?_
  rintro ⟨bA, bc, hbv, _⟩
  dsimp only at hbv hv
  subst hbv
  (refine sw_seq ?_; refine sw_region ?_)
  refine so_box rfl rfl rfl rfl rfl fun g3 => ?_
  ((iterate 2 refine so_1 rfl ?_); refine so_nil ?_; refine sn_then ?_; (iterate 2 refine sw_seq ?_); refine sw_region ?_; refine so_1 rfl ?_; refine so_l 0 rfl rfl rfl ?_; refine so_nil ?_; refine sn_then ?_; refine sw_block ?_; refine sw_seq ?_; refine sw_region ?_; (iterate 2 refine so_1 rfl ?_); refine so_nil ?_; refine sn_then ?_)
  refine sw_if rfl (fun h0 => ?_) (fun h0 => ?_)
  · have e : doneT w nx l ⟨ak, an, ao, aa, at', ar, .slice bA ab.length bc, ab⟩ = staT nx l ar := by unfold doneT; rw [if_pos h0]
    rw [e]
    (refine sw_seq ?_; refine sw_region ?_; (iterate 2 refine so_1 rfl ?_); refine so_l 0 rfl rfl rfl ?_)
    refine so_call rfl rfl rfl ((uStart_X hg).ent (ent_keep 2 [1, 0] rfl rfl)) ?_
    rintro v F' ⟨rfl, rfl⟩
    ((iterate 4 refine so_1 rfl ?_); refine so_nil ?_; refine sn_then ?_; refine sw_ret ?_; refine sn_block_ret ?_; refine sn_then_ret ?_)
    refine sn_ret rfl (.tmp rfl (.tmp rfl .nil)) (ent_keep 2 [0] rfl rfl) ?_
    exact ⟨rfl, k, by omega, rfl⟩
  (refine sw_seq ?_; refine sw_region ?_; (iterate 2 refine so_1 rfl ?_); refine so_nil ?_; refine sn_then ?_)
  refine sw_if rfl (fun h1 => ?_) (fun h1 => ?_)
  · have e : doneT w nx l ⟨ak, an, ao, aa, at', ar, .slice bA ab.length bc, ab⟩ = ((wrT l an ao ab).1, (nx, (wrT l an ao ab).2)) := by unfold doneT; rw [if_neg h0, if_pos h1]
    rw [e]
    (refine sw_seq ?_; refine sw_region ?_; (iterate 2 refine so_1 rfl ?_); refine so_l 0 rfl rfl rfl ?_; refine so_1 rfl ?_; refine so_l 0 rfl rfl rfl ?_; refine so_1 rfl ?_; refine so_l 0 rfl rfl rfl ?_)
    refine so_call rfl rfl rfl ((uWrite_X hg (fun w H => hv w (H.ent (ent_keep 1 [] rfl rfl))) (by omega) hk).ent (ent_keep 2 [1, 0] rfl rfl)) ?_
    rintro v F' ⟨rfl, rfl⟩
    ((iterate 4 refine so_1 rfl ?_); refine so_nil ?_; refine sn_then ?_; refine sw_ret ?_; refine sn_block_ret ?_; refine sn_then_ret ?_)
    refine sn_ret rfl (.tmp rfl (.tmp rfl .nil)) (ent_keep 2 [0] rfl rfl) ?_
    exact ⟨rfl, k + 1, by omega, rfl⟩
  (refine sw_seq ?_; refine sw_region ?_; (iterate 2 refine so_1 rfl ?_); refine so_nil ?_; refine sn_then ?_)
  refine sw_if rfl (fun h2 => ?_) (fun h2 => ?_)
  · have e : doneT w nx l ⟨ak, an, ao, aa, at', ar, .slice bA ab.length bc, ab⟩ = ((((finT w l an (dgT l an (1 + aa % 32))).1.1.2.2.length : Int), (finT w l an (dgT l an (1 + aa % 32))).1.2), (nx, (finT w l an (dgT l an (1 + aa % 32))).2)) := by unfold doneT; rw [if_neg h0, if_neg h1, if_pos h2]
    rw [e]
    (refine sw_seq ?_; refine sw_region ?_)
    refine so_new rfl rfl rfl rfl rfl fun g6 => ?_
    (refine so_nil ?_; refine sn_then ?_; refine sw_seq ?_; refine sw_region ?_; refine so_1 rfl ?_)
    refine so_call rfl rfl rfl ((uList_X hg (by omega)).ent (ent_keep 3 [2, 0, 1] rfl rfl)) ?_
    rintro v F' rfl
    refine so_opn ?_
    intro D hD
    have hDl : D.length = l.length := by rw [← hD, List.length_map]
    have h8 := hg.len
    have hbs : ∀ d ∈ D, d.b.length ≤ 4096 := fun d hd => hg.bs d.se (hD ▸ List.mem_map_of_mem hd)
    show SO _ _ _ _ _ _ _ _ _ (rSs v D :: all (dsF D) :: upX g w nx l k :: _)
    refine so_fact (fun w H => (H.oat (k := 0) rfl).form) ?_
    rintro ⟨A0, c0, rfl, q1, q2, q3⟩
    (refine so_1 rfl ?_; refine so_nil ?_; refine sn_then ?_; (iterate 2 refine sw_seq ?_); refine sw_region ?_; refine so_1 rfl ?_; refine so_nil ?_; refine sn_then ?_; refine sw_block ?_)
    refine sw_loop (S := Nat) (fun i => [(0, .pointer (some ⟨g, 0, none⟩)), (3, .pointer (some ⟨g3, 0, none⟩)), (6, .pointer (some ⟨g6, 0, none⟩)), (7, .slice A0 D.length c0), (8, .int .i64 (i : Int))]) (fun i => pt g6 t_api_ID (u8s (dgT (l.take i) an (1 + aa % 32))) :: rSs (.slice A0 D.length c0) D :: all (dsF D) :: upX g w nx l k :: pt g3 t_entrepotlaw09_Act (acC ⟨ak, an, ao, aa, at', ar, .slice bA ab.length bc, ab⟩) :: F) (fun i => i ≤ D.length) (fun i => D.length - i) 0
      ⟨rfl, rfl, rfl, rfl, rfl, trivial⟩ (ent_keep 5 [3, 0, 1, 2, 4] rfl rfl) (Nat.zero_le _) ?_
    intro i hi
    have hdl := dgT_len (l.take i) an (1 + aa % 32)
    ((iterate 2 refine sw_seq ?_); refine sw_region ?_; (iterate 4 refine so_1 rfl ?_); refine so_nil ?_; refine sn_then ?_)
    refine sw_if rfl (fun h5 => ?_) (fun h5 => ?_)
    · have hiD : i < D.length := by omega
      have hil : i < l.length := by omega
      obtain ⟨gg, oo, rfl⟩ := q3 (by omega)
      have hes : D[i].se = l[i] := by simp only [← hD, List.getElem_map]
      have hnext : dgT (l.take (i + 1)) an (1 + aa % 32) = if l[i].1 = an then cutR (sumM l[i].2.2) (1 + aa % 32) else dgT (l.take i) an (1 + aa % 32) := by
        unfold dgT
        rw [List.take_succ_eq_append_getElem hil, List.foldl_append]; rfl
      (refine sw_skip ?_; refine sn_then ?_; refine sw_seq ?_; refine sw_block ?_; refine sw_seq ?_)
      refine sw_draw flo _ (by decide +kernel) (Ent.refl _) ?_
      ((iterate 2 refine sd_1 rfl (.inl rfl) ?_); refine sd_2 rfl rfl (by omega) ?_; refine sd_1 rfl (.inl rfl) ?_)
      refine sd_rd rfl (fun w H => ex_load rfl rfl rfl (by rw [mulz_eq, Int.toNat_natCast]; exact rSn_cell (k := 1) rfl rfl hiD (j := 0) (by decide) w H)) rfl rfl ?_
      (refine sd_1 rfl (.inl rfl) ?_; refine sd_l 4 rfl rfl rfl rfl ?_; refine sd_1 rfl (.inl rfl) ?_)
      refine sd_nil ?_
      (refine sn_then ?_)
      refine sw_if rfl (fun h6 => ?_) (fun h6 => ?_)
      · have hne : dgT (l.take (i + 1)) an (1 + aa % 32) = cutR (sumM D[i].b) (1 + aa % 32) := by
          rw [hnext, if_pos (by rw [← hes]; exact h6), ← hes]; rfl
        have hcl := cutR_len (sumM D[i].b) (1 + aa % 32) (sumM_len D[i].b)
        have hbl := hbs _ (List.getElem_mem hiD)
        have hOf : ∀ {b : World} {F : List SP} {vb : Value}, (∀ w, Sat b F w → VL (Value.int .u8) w vb D[i].b) → SC Try.prog n_sha_Of [vb, .int .i64 (1 + aa % 32)] b F (fun v F' => v = .tuple ⟨[idV (cutR (sumM D[i].b) (1 + aa % 32)), .int .i64 (cutE (1 + aa % 32))]⟩ ∧ F' = F) := fun h => Of_S (by omega) h
        rw [← hne] at hOf hcl
        generalize hd2 : dgT (l.take (i + 1)) an (1 + aa % 32) = d2 at *
        generalize dgT (l.take i) an (1 + aa % 32) = d1 at *
        generalize cutE (1 + aa % 32) = ce at *
        skip
        refine sw_draw flo (rSs (.slice (some ⟨gg, oo, none⟩) D.length c0) D :: all (dsF D) :: upX g w nx l k :: pt g3 t_entrepotlaw09_Act (acC ⟨ak, an, ao, aa, at', ar, .slice bA ab.length bc, ab⟩) :: F) (by decide +kernel) (ent_keep 5 [1, 2, 3, 4] rfl rfl) ?_
        ((iterate 2 refine sd_1 rfl (.inl rfl) ?_); refine sd_2 rfl rfl (by omega) ?_; refine sd_1 rfl (.inl rfl) ?_)
        refine sd_rd rfl (fun w H => ex_load rfl rfl rfl (by rw [mulz_eq, Int.toNat_natCast]; exact rSn_cell (k := 0) rfl rfl hiD (j := 2) (by decide) w H)) rfl rfl ?_
        (refine sd_1 rfl (.inl rfl) ?_; refine sd_l 3 rfl rfl rfl rfl ?_)
        refine sd_callE rfl rfl rfl rfl (Pick_S (by unfold I64; omega)) (ent_keep 5 [1, 2, 3, 4] rfl rfl) ?_
        (refine sd_2 rfl rfl (by (unfold I64; omega)) ?_)
        refine sd_know 60 (.int .i64 (1 + aa % 32)) rfl (congrArg (fun x => Value.int .i64 (1 + x)) (if_neg (by decide))) ?_
        refine sd_callE rfl rfl rfl rfl (hOf (fun w H => dsF_vl (k := 2) rfl hiD w H)) (ent_keep 5 [1, 2, 3, 4] rfl rfl) ?_
        ((iterate 3 refine sd_1 rfl (.inl rfl) ?_))
        refine sd_stW 0 rfl rfl rfl rfl rfl rfl rfl rfl (by rw [u8s_len, hcl]; rfl) (u8s_one _) (by simp [hcl, hdl]) (ent_keep 5 [1, 2, 3, 4] rfl rfl) ?_
        refine sd_nil ?_
        (refine sn_block ?_; refine sn_then ?_; refine sw_region ?_; refine so_1 rfl ?_; refine so_2 rfl (by (unfold I64; omega)) ?_; refine so_1 rfl ?_; refine so_nil ?_)
        exact sn_round (i + 1) ⟨rfl, rfl, rfl, rfl, rfl, trivial⟩ (by rw [hd2]; exact Ent.refl _) hiD (by omega)
      · have hne : dgT (l.take (i + 1)) an (1 + aa % 32) = dgT (l.take i) an (1 + aa % 32) := by
          rw [hnext, if_neg (by rw [← hes]; exact h6)]
        (refine sw_skip ?_; refine sn_block ?_; refine sn_then ?_; refine sw_region ?_; refine so_1 rfl ?_; refine so_2 rfl (by (unfold I64; omega)) ?_; refine so_1 rfl ?_; refine so_nil ?_)
        exact sn_round (i + 1) ⟨rfl, rfl, rfl, rfl, rfl, trivial⟩ (by rw [hne]; exact Ent.refl _) hiD (by omega)
    · have hil : i = l.length := by omega
      subst hil
      rw [List.take_length] at hdl ⊢
      have hfin : Gd w nx (finT w l an (dgT l an (1 + aa % 32))).2 := hg.fin
      have hU := fun (b : World) (F : List SP) => uFinish_X (b := b) (F := F) (g := g) (k := k) hg (x := an) hdl (by omega)
      generalize finT w l an (dgT l an (1 + aa % 32)) = r at *
      generalize dgT l an (1 + aa % 32) = d2 at *
      obtain ⟨⟨⟨rn, rr, rb⟩, re⟩, rl⟩ := r
      dsimp only at hfin hU ⊢
      (refine sw_exit ?_; refine sn_then_exit ?_; refine sn_loop_exit ?_; refine sn_block_exit ?_; refine sn_then ?_; refine sw_seq ?_; refine sw_region ?_; (iterate 2 refine so_1 rfl ?_); refine so_l 4 rfl rfl rfl ?_)
      refine so_ldA 0 rfl rfl rfl rfl rfl rfl (segID hdl) rfl ?_
      refine so_call rfl rfl rfl ((hU _ _).ent (ent_keep 5 [3, 0, 1, 2, 4] rfl rfl)) ?_
      rintro v F' ⟨bv, rfl, rfl⟩
      refine so_fact (fun w H => (H.oat (k := 0) rfl).form) ?_
      rintro ⟨A7, c7, rfl, _, _, _⟩
      ((iterate 3 refine so_1 rfl ?_))
      refine so_new rfl rfl rfl rfl rfl fun g9 => ?_
      (refine so_s1 0 rfl rfl rfl rfl ?_; refine so_1 rfl ?_; refine so_nil ?_; refine sn_then ?_; refine sw_seq ?_; refine sw_region ?_; refine so_1 rfl ?_; refine so_l 0 rfl rfl rfl ?_; (iterate 4 refine so_1 rfl ?_); refine so_nil ?_; refine sn_then ?_; refine sw_ret ?_; refine sn_block_ret ?_; refine sn_then_ret ?_)
      refine sn_ret rfl (.tmp rfl (.tmp rfl .nil)) (ent_keep 7 [2] rfl rfl) ?_
      exact ⟨rfl, k, by omega, rfl⟩
  (refine sw_seq ?_; refine sw_region ?_; (iterate 2 refine so_1 rfl ?_); refine so_nil ?_; refine sn_then ?_)
  refine sw_if rfl (fun h3 => ?_) (fun h3 => ?_)
  · have e : doneT w nx l ⟨ak, an, ao, aa, at', ar, .slice bA ab.length bc, ab⟩ = ((0, (canT l an).1), (nx, (canT l an).2)) := by unfold doneT; rw [if_neg h0, if_neg h1, if_neg h2, if_pos h3]
    rw [e]
    (refine sw_seq ?_; refine sw_region ?_; (iterate 2 refine so_1 rfl ?_); refine so_l 0 rfl rfl rfl ?_)
    refine so_call rfl rfl rfl ((uCancel_X hg).ent (ent_keep 2 [1, 0] rfl rfl)) ?_
    rintro v F' ⟨rfl, rfl⟩
    ((iterate 2 refine so_1 rfl ?_); refine so_nil ?_; refine sn_then ?_; refine sw_ret ?_; refine sn_block_ret ?_; refine sn_then_ret ?_)
    refine sn_ret rfl (.tmp rfl (.tmp rfl .nil)) (ent_keep 2 [0] rfl rfl) ?_
    exact ⟨rfl, k, by omega, rfl⟩
  · have e : doneT w nx l ⟨ak, an, ao, aa, at', ar, .slice bA ab.length bc, ab⟩ = (offT l an, (nx, l)) := by unfold doneT; rw [if_neg h0, if_neg h1, if_neg h2, if_neg h3]
    rw [e]
    (refine sw_skip ?_; refine sn_block ?_; refine sn_then ?_; refine sw_seq ?_; refine sw_region ?_; (iterate 2 refine so_1 rfl ?_); refine so_l 0 rfl rfl rfl ?_)
    refine so_call rfl rfl rfl ((uOffset_X hg).ent (ent_keep 2 [1, 0] rfl rfl)) ?_
    rintro v F' ⟨rfl, rfl⟩
    ((iterate 4 refine so_1 rfl ?_); refine so_nil ?_; refine sn_then ?_; refine sw_ret ?_)
    refine sn_ret rfl (.tmp rfl (.tmp rfl .nil)) (ent_keep 2 [0] rfl rfl) ?_
    exact ⟨rfl, k, by omega, rfl⟩
theorem plain_1 (hg : Gd w nx l) {a : Ac} {p : Value} (hv : ∀ w, Sat b F w → VL (Value.int .u8) w a.bv a.b) (hbl : a.b.length ≤ 5000) (hk : k < 100000) :
    SC Try.prog n_entrepotlaw09_plain [.pointer (some ⟨g, 0, none⟩), .agg ⟨acC a⟩, .bool true, p] b (upX g w nx l k :: F)
      (fun v F' => v = .bool true ∧ ∃ k', k' ≤ k + 1 ∧ F' = upX g w (doneT w nx l a).2.1 (doneT w nx l a).2.2 k' :: F) := by
  have hD := fun (b : World) (F : List SP) (hv : ∀ w, Sat b F w → VL (Value.int .u8) w a.bv a.b) => done_S (b := b) (F := F) (g := g) hg hv hbl hk
  generalize doneT w nx l a = r at *
  obtain ⟨⟨r1, r2⟩, r3, r4⟩ := r
  dsimp only at hD ⊢
  obtain ⟨ak, an, ao, aa, at', ar, av, ab⟩ := a
  refine enterS F_entrepotlaw09_plain rfl rfl rfl ?_
  refine sw_fact (fun w H => (hv w (H.ent (ent_keep 1 [] rfl rfl))).form) ?_
  rintro ⟨bA, bc, hbv, _⟩
  dsimp only at hbv hv
  subst hbv
  (refine sw_seq ?_; refine sw_region ?_)
  refine so_box rfl rfl rfl rfl rfl fun g5 => ?_
  (refine so_1 rfl ?_; refine so_nil ?_; refine sn_then ?_; refine sw_seq ?_; refine sw_region ?_; refine so_1 rfl ?_; refine so_l 0 rfl rfl rfl ?_)
  refine so_call rfl rfl rfl ((hD _ _ (fun w H => hv w (H.ent (ent_keep 1 [] rfl rfl)))).ent (ent_keep 2 [1, 0] rfl rfl)) ?_
  rintro v F' ⟨rfl, k', hk', rfl⟩
  ((iterate 5 refine so_1 rfl ?_); refine so_nil ?_; refine sn_then ?_; (iterate 2 refine sw_seq ?_); refine sw_region ?_; refine so_1 rfl ?_; refine so_nil ?_; refine sn_then ?_; refine sw_cond_t rfl ?_; refine sw_seq ?_; refine sw_region ?_; refine so_1 rfl ?_; refine so_nil ?_; refine sn_then ?_; refine sw_ret ?_; refine sn_then_ret ?_)
  refine sn_ret rfl (.tmp rfl .nil) (ent_keep 2 [0] rfl rfl) ?_
  exact ⟨rfl, k', hk', rfl⟩
theorem plain_2 (hg : Gd w nx l) {a : Ac} (hv : ∀ w, Sat b F w → VL (Value.int .u8) w a.bv a.b) (hbl : a.b.length ≤ 5000) (hk : k < 100000) (hk2 : k2 < 100000) :
    SC Try.prog n_entrepotlaw09_plain [.pointer (some ⟨g, 0, none⟩), .agg ⟨acC a⟩, .bool false, .pointer (some ⟨g2, 0, none⟩)] b (upX g w nx l k :: upX g2 w nx l k2 :: F)
      (fun v F' => v = .bool true ∧ ∃ k' k2', k' ≤ k + 1 ∧ k2' ≤ k2 + 1 ∧ F' = upX g w (doneT w nx l a).2.1 (doneT w nx l a).2.2 k' :: upX g2 w (doneT w nx l a).2.1 (doneT w nx l a).2.2 k2' :: F) := by
  have hD := fun (b : World) (F : List SP) (hv : ∀ w, Sat b F w → VL (Value.int .u8) w a.bv a.b) => done_S (b := b) (F := F) (g := g) hg hv hbl hk
  have hE := fun (b : World) (F : List SP) (hv : ∀ w, Sat b F w → VL (Value.int .u8) w a.bv a.b) => done_S (b := b) (F := F) (g := g2) hg hv hbl hk2
  generalize doneT w nx l a = r at *
  obtain ⟨⟨r1, r2⟩, r3, r4⟩ := r
  dsimp only at hD hE ⊢
  obtain ⟨ak, an, ao, aa, at', ar, av, ab⟩ := a
  refine enterS F_entrepotlaw09_plain rfl rfl rfl ?_
  refine sw_fact (fun w H => (hv w (H.ent (ent_keep 2 [] rfl rfl))).form) ?_
  rintro ⟨bA, bc, hbv, _⟩
  dsimp only at hbv hv
  subst hbv
  (refine sw_seq ?_; refine sw_region ?_)
  refine so_box rfl rfl rfl rfl rfl fun g5 => ?_
  (refine so_1 rfl ?_; refine so_nil ?_; refine sn_then ?_; refine sw_seq ?_; refine sw_region ?_; refine so_1 rfl ?_; refine so_l 0 rfl rfl rfl ?_)
  refine so_call rfl rfl rfl ((hD _ _ (fun w H => hv w (H.ent (ent_keep 2 [] rfl rfl)))).ent (ent_keep 3 [1, 0, 2] rfl rfl)) ?_
  rintro v F' ⟨rfl, k', hk', rfl⟩
  ((iterate 5 refine so_1 rfl ?_); refine so_nil ?_; refine sn_then ?_; (iterate 2 refine sw_seq ?_); refine sw_region ?_; refine so_1 rfl ?_; refine so_nil ?_; refine sn_then ?_; refine sw_cond_f rfl ?_; refine sw_skip ?_; refine sn_then ?_; refine sw_seq ?_; refine sw_region ?_; refine so_1 rfl ?_; refine so_l 1 rfl rfl rfl ?_)
  refine so_call rfl rfl rfl ((hE _ _ (fun w H => hv w (H.ent (ent_keep 2 [] rfl rfl)))).ent (ent_keep 3 [2, 0, 1] rfl rfl)) ?_
  rintro v F' ⟨rfl, k2', hk2', rfl⟩
  ((iterate 5 refine so_1 rfl ?_); refine so_nil ?_; refine sn_then ?_; refine sw_seq ?_; refine sw_region ?_; (iterate 4 refine so_1 rfl ?_))
  refine so_know 29 (.bool true) rfl (congrArg Value.bool (decide_eq_true rfl)) ?_
  ((iterate 5 refine so_1 rfl ?_); refine so_nil ?_; refine sn_then ?_; refine sw_ret ?_)
  refine sn_ret rfl (.tmp rfl .nil) (ent_keep 3 [1, 0] rfl rfl) ?_
  exact ⟨congrArg Value.bool (decide_eq_true rfl), k', k2', hk', hk2', rfl⟩
end
end Go.Proofs.Ytjfileaidgknjaa
/- Uploads, part thirty-five: UploadResumes. Conditions: the arguments read as the row says. -/
namespace Go.Proofs.Ytjfileaidgknjaa
open Go Go.Eng Go.RowKit Go.WideMaps

def uP (g : Nat) : Option (Nat × Nat) → Value
  | none => .pointer (some ⟨g, 0, none⟩)
  | some p => .pointer (some ⟨p.1, 0, none⟩)
def uQ (g : Nat) (w nx : Int) (l : List Se) (k : Nat) (F : List SP) : Option (Nat × Nat) → List SP
  | none => upX g w nx l k :: F
  | some p => upX g w nx l k :: upX p.1 w nx l p.2 :: F
def uK : Option (Nat × Nat) → Nat
  | none => 0
  | some p => p.2
set_option maxRecDepth 20000 in
set_option maxHeartbeats 4000000 in
theorem walk_UploadResumes {W : World} {va : Value} {L : List Ac} {ct wd : Int} (h : LAc W va L) : Calls Try.prog n_entrepotlaw09_UploadResumes #[va, .int .i64 ct, .int .i64 wd] W (fun e w' => e = .returned (.bool true) ∧ Ext W w') := by
  refine law_of (args := [va, .int .i64 ct, .int .i64 wd]) ?_
  have hl : ∀ {F : List SP} {k : Nat}, nth F k = some (Is W) → ∀ w, Sat W F w → LAc w va L := fun hk w H => h.ext (H.is hk)
  obtain ⟨A0, c0, rfl, _, _, _, k4, _⟩ := sl_form h.sl
  refine enterS F_entrepotlaw09_UploadResumes rfl rfl rfl ?_
  (refine sw_seq ?_; refine sw_region ?_; refine so_1 rfl ?_; refine so_nil ?_; refine sn_then ?_; refine sw_seq ?_; refine sw_region ?_)
  refine so_callE rfl rfl rfl (Known_S) ?_
  (refine so_1 rfl ?_; refine so_nil ?_; refine sn_then ?_; (iterate 2 refine sw_seq ?_); refine sw_region ?_; refine so_1 rfl ?_)
  refine so_call rfl rfl rfl (Long_S (L := L) (hl (k := 0) rfl)) ?_
  rintro _ _ ⟨q, hq, rfl, rfl⟩
  cases q with
  | true =>
    (refine so_nil ?_; refine sn_then ?_; refine sw_cond_t rfl ?_; refine sw_seq ?_; refine sw_region ?_; (iterate 2 refine so_1 rfl ?_); refine so_nil ?_; refine sn_then ?_; refine sw_ret ?_; refine sn_then_ret ?_)
    refine sn_ret rfl (.tmp rfl .nil) (Ent.refl _) ?_
    exact ⟨rfl, rfl⟩
  | false =>
  obtain ⟨hl40, hle⟩ := hq rfl
  (refine so_nil ?_; refine sn_then ?_; refine sw_cond_f rfl ?_; refine sw_skip ?_; refine sn_then ?_; refine sw_seq ?_; refine sw_region ?_; refine so_1 rfl ?_)
  refine so_callE rfl rfl rfl (Pick_S (by unfold I64; omega)) ?_
  have e32 : (if (32 : Int) ≤ 0 then 0 else wd % 32) = wd % 32 := if_neg (by decide)
  rw [e32]
  have hW0 : 1 ≤ 1 + wd % 32 ∧ 1 + wd % 32 ≤ 32 := by omega
  (refine so_2 rfl (by (unfold I64; omega)) ?_; refine so_1 rfl ?_; refine so_nil ?_; refine sn_then ?_; refine sw_seq ?_; refine sw_region ?_; (iterate 3 refine so_1 rfl ?_); refine so_2 rfl (by (unfold I64; omega)) ?_)
  generalize 1 + wd % 32 = w at *
  refine so_callE rfl rfl rfl (Pick_S (by unfold I64; omega)) ?_
  generalize (if (L.length : Int) + 1 ≤ 0 then 0 else ct % ((L.length : Int) + 1)) = cc
  (refine so_1 rfl ?_; refine so_nil ?_; refine sn_then ?_; refine sw_seq ?_; refine sw_region ?_; refine so_1 rfl ?_)
  refine so_call rfl rfl rfl (uNew_X hW0) ?_
  rintro _ _ ⟨g, rfl, rfl⟩
  ((iterate 5 refine so_1 rfl ?_); refine so_nil ?_; refine sn_then ?_; (iterate 2 refine sw_seq ?_); refine sw_region ?_; (iterate 6 refine so_1 rfl ?_); refine so_nil ?_; refine sn_then ?_; refine sw_cond_f rfl ?_; refine sw_skip ?_; refine sn_then ?_; refine sw_seq ?_; refine sw_region ?_; (iterate 2 refine so_1 rfl ?_); refine so_nil ?_; refine sn_then ?_; (iterate 2 refine sw_seq ?_); refine sw_region ?_; refine so_1 rfl ?_; refine so_nil ?_; refine sn_then ?_; refine sw_block ?_)
  refine sw_loop (S := Nat × Int × List Se × Nat × Option (Nat × Nat)) (fun s => [(0, .slice A0 L.length c0), (1, .int .i64 cc), (2, .int .i64 w), (7, .bool true), (8, .pointer (some ⟨g, 0, none⟩)), (10, uP g s.2.2.2.2), (11, .int .i64 (s.1 : Int))])
    (fun s => uQ g w s.2.1 s.2.2.1 s.2.2.2.1 [Is W] s.2.2.2.2) (fun s => s.1 ≤ L.length ∧ Gd w s.2.1 s.2.2.1 ∧ Nm s.2.2.1 ∧ s.2.2.2.1 ≤ s.1 ∧ uK s.2.2.2.2 ≤ s.1 + 1 ∧ (s.2.2.2.2 ≠ none → cc < s.1)) (fun s => L.length - s.1) (0, 1, [], 0, none) ⟨rfl, rfl, rfl, rfl, rfl, rfl, rfl, trivial⟩ (Ent.refl _) ⟨Nat.zero_le _, gd_new hW0, fun s hs => by simp at hs, Nat.le_refl _, Nat.zero_le _, fun h => absurd rfl h⟩ ?_
  rintro ⟨i, nx, l, k, o⟩ ⟨hi, hg, hn, hk, hk2, ho⟩
  dsimp only at hi hg hn hk hk2 ho ⊢
  ((iterate 2 refine sw_seq ?_); refine sw_region ?_; (iterate 4 refine so_1 rfl ?_); refine so_nil ?_; refine sn_then ?_)
  refine sw_if rfl (fun h1 => ?_) (fun h1 => ?_)
  · have h1' : i < L.length := by omega
    obtain ⟨bk, off, rfl⟩ := k4 (by omega)
    have hmem := List.getElem_mem h1'
    have hc : ∀ {F : List SP} {k : Nat}, nth F k = some (Is W) → ∀ w, Sat W F w → ∀ j, j < 7 → w.cell? ⟨bk, off + i * 7 + j, none⟩ = (acC L[i])[j]? := fun hk w H j hj => fl_cell (hl hk w H).sl (acC_len L) h1' hj
    have hxv : ∀ {F : List SP} {k : Nat}, nth F k = some (Is W) → ∀ w, Sat W F w → VL (Value.int .u8) w L[i].bv L[i].b := fun hk w H => (hl hk w H).bs _ hmem
    have hxl := hle _ hmem
    generalize L[i] = x at *
    have hg' := hg.done (a := x)
    have hn' := hn.done hg (a := x)
    have h8 := hg.len
    (refine sw_skip ?_; refine sn_then ?_; refine sw_seq ?_; refine sw_block ?_; (iterate 2 refine sw_seq ?_); refine sw_region ?_; (iterate 3 refine so_1 rfl ?_); refine so_nil ?_; refine sn_then ?_)
    refine sw_if rfl (fun h5 => ?_) (fun h5 => ?_)
    · obtain rfl : o = none := by
        cases o with
        | none => rfl
        | some p => have := ho (by simp); omega
      show SW _ _ _ _ _ _ _ _ (upX g w nx l k :: [Is W])
      (refine sw_seq ?_; refine sw_region ?_; (iterate 2 refine so_1 rfl ?_))
      refine so_callE rfl rfl rfl (uNext_X hg) ?_
      (refine so_1 rfl ?_)
      refine so_call rfl rfl rfl (uList_X hg (by omega)) ?_
      rintro v F' rfl
      refine so_opn ?_
      intro D hD
      have hDl : D.length = l.length := by rw [← hD, List.length_map]
      refine so_call rfl rfl rfl (uLoad_X (l := D) ⟨hg.w0, hg.w1, hg.n0, hg.n1⟩ ⟨by omega, by rw [hD]; exact sesOk_gd' hg hn⟩ (sls_at (j := 0) (k := 1) rfl rfl)) ?_
      rw [hD]
      rintro _ _ ⟨g2, rfl, rfl⟩
      refine so_ent (ent_keep 4 [3, 0] rfl rfl) ?_
      show SO _ _ _ _ _ _ _ _ _ (upX g w nx l k :: upX g2 w nx l 1 :: [Is W])
      have ho : ∀ h : some (g2, 1) ≠ (none : Option (Nat × Nat)), cc < (i : Int) + 1 := fun _ => by omega
      ((iterate 5 refine so_1 rfl ?_); refine so_nil ?_; refine sn_then ?_; (iterate 2 refine sw_seq ?_); refine sw_region ?_; (iterate 6 refine so_1 rfl ?_); refine so_nil ?_; refine sn_then ?_; refine sw_cond_f rfl ?_; refine sw_skip ?_; refine sn_then ?_; refine sw_region ?_; (iterate 2 refine so_1 rfl ?_); refine so_nil ?_; refine sn_then ?_; refine sw_seq ?_; refine sw_region ?_; (iterate 3 refine so_1 rfl ?_); refine so_2 rfl (by omega) ?_)
      refine so_rd rfl (fun w H => ex_loadN (cs := acC x) rfl rfl rfl rfl (fun q hq => by rw [mulz_eq, Int.toNat_natCast]; exact hc (k := 2) rfl w H q hq)) rfl ?_
      ((iterate 2 refine so_1 rfl ?_))
      refine so_fact (fun w H => (up2_blk H).1) ?_
      intro hgg
      refine so_rd (v := .bool (decide (g2 = g))) rfl (fun w H => by obtain ⟨_, ⟨c, hb⟩, c', hb'⟩ := up2_blk H; exact ex_eqp rfl rfl (by decide) rfl rfl hb' hb) rfl ?_
      refine so_know 70 (.bool false) rfl (congrArg Value.bool (decide_eq_false hgg)) ?_
      (refine so_1 rfl ?_)
      refine so_call rfl rfl rfl (plain_2 (g := g) (g2 := g2) hg (hxv (k := 0) rfl) hxl (by omega) (by omega)) ?_
      rintro v F' ⟨rfl, k', k2', hk', hk2', rfl⟩
      (refine so_1 rfl ?_; refine so_nil ?_; refine sn_then ?_; refine sw_cond_f rfl ?_; refine sw_skip ?_; refine sn_block ?_; refine sn_then ?_; refine sw_region ?_; refine so_1 rfl ?_; refine so_2 rfl (by (unfold I64; omega)) ?_; refine so_1 rfl ?_; refine so_nil ?_)
      exact sn_round (i + 1, (doneT w nx l x).2.1, (doneT w nx l x).2.2, k', some (g2, k2')) ⟨rfl, rfl, rfl, rfl, rfl, rfl, rfl, trivial⟩ (Ent.refl _) ⟨h1', hg', hn', by dsimp only; omega, by show k2' ≤ i + 1 + 1; omega, fun _ => by dsimp only; omega⟩ (by dsimp only; omega)
    · cases o with
      | none =>
        show SW _ _ _ _ _ _ _ _ (upX g w nx l k :: [Is W])
        (refine sw_skip ?_; refine sn_then ?_; refine sw_seq ?_; refine sw_region ?_; (iterate 3 refine so_1 rfl ?_); refine so_2 rfl (by omega) ?_)
        refine so_rd rfl (fun w H => ex_loadN (cs := acC x) rfl rfl rfl rfl (fun q hq => by rw [mulz_eq, Int.toNat_natCast]; exact hc (k := 1) rfl w H q hq)) rfl ?_
        ((iterate 2 refine so_1 rfl ?_))
        refine so_rd (v := .bool (decide (g = g))) rfl (fun w H => by obtain ⟨c, hb⟩ := up_blk H; exact ex_eqp rfl rfl (by decide) rfl rfl hb hb) rfl ?_
        refine so_know 70 (.bool true) rfl (congrArg Value.bool (decide_eq_true rfl)) ?_
        (refine so_1 rfl ?_)
        refine so_call rfl rfl rfl (plain_1 (g := g) hg (hxv (k := 0) rfl) hxl (by omega)) ?_
        rintro v F' ⟨rfl, k', hk', rfl⟩
        (refine so_1 rfl ?_; refine so_nil ?_; refine sn_then ?_; refine sw_cond_f rfl ?_; refine sw_skip ?_; refine sn_block ?_; refine sn_then ?_; refine sw_region ?_; refine so_1 rfl ?_; refine so_2 rfl (by (unfold I64; omega)) ?_; refine so_1 rfl ?_; refine so_nil ?_)
        exact sn_round (i + 1, (doneT w nx l x).2.1, (doneT w nx l x).2.2, k', none) ⟨rfl, rfl, rfl, rfl, rfl, rfl, rfl, trivial⟩ (Ent.refl _) ⟨h1', hg', hn', by dsimp only; omega, Nat.zero_le _, fun h => absurd rfl h⟩ (by dsimp only; omega)
      | some p =>
        obtain ⟨g2, k2⟩ := p
        have ho2 : cc < (i : Int) := ho (by simp)
        have hk2' : k2 ≤ i + 1 := hk2
        show SW _ _ _ _ _ _ _ _ (upX g w nx l k :: upX g2 w nx l k2 :: [Is W])
        (refine sw_skip ?_; refine sn_then ?_; refine sw_seq ?_; refine sw_region ?_; (iterate 3 refine so_1 rfl ?_); refine so_2 rfl (by omega) ?_)
        refine so_rd rfl (fun w H => ex_loadN (cs := acC x) rfl rfl rfl rfl (fun q hq => by rw [mulz_eq, Int.toNat_natCast]; exact hc (k := 2) rfl w H q hq)) rfl ?_
        ((iterate 2 refine so_1 rfl ?_))
        refine so_fact (fun w H => (up2_blk H).1) ?_
        intro hgg
        refine so_rd (v := .bool (decide (g2 = g))) rfl (fun w H => by obtain ⟨_, ⟨c, hb⟩, c', hb'⟩ := up2_blk H; exact ex_eqp rfl rfl (by decide) rfl rfl hb' hb) rfl ?_
        refine so_know 70 (.bool false) rfl (congrArg Value.bool (decide_eq_false hgg)) ?_
        (refine so_1 rfl ?_)
        refine so_call rfl rfl rfl (plain_2 (g := g) (g2 := g2) hg (hxv (k := 0) rfl) hxl (by omega) (by omega)) ?_
        rintro v F' ⟨rfl, k', k2', hk', hk2', rfl⟩
        (refine so_1 rfl ?_; refine so_nil ?_; refine sn_then ?_; refine sw_cond_f rfl ?_; refine sw_skip ?_; refine sn_block ?_; refine sn_then ?_; refine sw_region ?_; refine so_1 rfl ?_; refine so_2 rfl (by (unfold I64; omega)) ?_; refine so_1 rfl ?_; refine so_nil ?_)
        exact sn_round (i + 1, (doneT w nx l x).2.1, (doneT w nx l x).2.2, k', some (g2, k2')) ⟨rfl, rfl, rfl, rfl, rfl, rfl, rfl, trivial⟩ (Ent.refl _) ⟨h1', hg', hn', by dsimp only; omega, by show k2' ≤ i + 1 + 1; omega, fun _ => by dsimp only; omega⟩ (by dsimp only; omega)
  · cases o with
    | none =>
      show SW _ _ _ _ _ _ _ _ (upX g w nx l k :: [Is W])
      (refine sw_exit ?_; refine sn_then_exit ?_; refine sn_loop_exit ?_; refine sn_block_exit ?_; refine sn_then ?_; refine sw_seq ?_; refine sw_region ?_; (iterate 3 refine so_1 rfl ?_))
      refine so_callE rfl rfl rfl (uNext_X hg) ?_
      (refine so_1 rfl ?_)
      refine so_callE rfl rfl rfl (uNext_X hg) ?_
      ((iterate 3 refine so_1 rfl ?_))
      refine so_know 82 (.bool true) rfl (congrArg Value.bool (decide_eq_true rfl)) ?_
      (refine so_1 rfl ?_)
      refine so_call rfl rfl rfl (uList_X hg (by omega)) ?_
      rintro v3 F' rfl
      (refine so_1 rfl ?_)
      refine so_call rfl rfl rfl ((uList_X hg (by omega)).ent (ent_keep 2 [1, 0] rfl rfl)) ?_
      rintro v4 F' rfl
      refine so_opn ?_
      intro D4 hD4
      refine so_ent (ent_keep 5 [3, 0, 1, 2, 4] rfl rfl) ?_
      refine so_opn ?_
      intro D3 hD3
      have h8 := hg.len
      have hl3 : D3.length = l.length := by rw [← hD3, List.length_map]
      refine so_callE rfl rfl rfl (SameSessions_S (D := D3) (E := D4) (sls_at (j := 0) (k := 1) rfl rfl) (sls_at (j := 2) (k := 3) rfl rfl) (hD3.trans hD4.symm) (by omega)) ?_
      ((iterate 2 refine so_1 rfl ?_); refine so_nil ?_; refine sn_then ?_; refine sw_ret ?_)
      refine sn_ret rfl (.tmp rfl .nil) (ent_keep 5 [] rfl rfl) ?_
      exact ⟨rfl, rfl⟩
    | some p =>
      obtain ⟨g2, k2⟩ := p
      show SW _ _ _ _ _ _ _ _ (upX g w nx l k :: upX g2 w nx l k2 :: [Is W])
      have hk2' : k2 ≤ i + 1 := hk2
      (refine sw_exit ?_; refine sn_then_exit ?_; refine sn_loop_exit ?_; refine sn_block_exit ?_; refine sn_then ?_; refine sw_seq ?_; refine sw_region ?_; (iterate 3 refine so_1 rfl ?_))
      refine so_callE rfl rfl rfl (uNext_X hg) ?_
      (refine so_1 rfl ?_)
      refine so_callE rfl rfl rfl ((uNext_X hg).at (ent_keep 2 [1, 0] rfl rfl) (ent_keep 2 [1, 0] rfl rfl)) ?_
      ((iterate 3 refine so_1 rfl ?_))
      refine so_know 82 (.bool true) rfl (congrArg Value.bool (decide_eq_true rfl)) ?_
      (refine so_1 rfl ?_)
      refine so_call rfl rfl rfl (uList_X hg (by omega)) ?_
      rintro v3 F' rfl
      (refine so_1 rfl ?_)
      refine so_call rfl rfl rfl ((uList_X hg (by omega)).ent (ent_keep 3 [2, 0, 1] rfl rfl)) ?_
      rintro v4 F' rfl
      refine so_opn ?_
      intro D4 hD4
      refine so_ent (ent_keep 6 [3, 0, 1, 2, 4, 5] rfl rfl) ?_
      refine so_opn ?_
      intro D3 hD3
      have h8 := hg.len
      have hl3 : D3.length = l.length := by rw [← hD3, List.length_map]
      refine so_callE rfl rfl rfl (SameSessions_S (D := D3) (E := D4) (sls_at (j := 0) (k := 1) rfl rfl) (sls_at (j := 2) (k := 3) rfl rfl) (hD3.trans hD4.symm) (by omega)) ?_
      ((iterate 2 refine so_1 rfl ?_); refine so_nil ?_; refine sn_then ?_; refine sw_ret ?_)
      refine sn_ret rfl (.tmp rfl .nil) (ent_keep 6 [] rfl rfl) ?_
      exact ⟨rfl, rfl⟩
end Go.Proofs.Ytjfileaidgknjaa
