/- Blobs, part one: how a store lies in memory; whether nobody made it; how it stands. Conditions: none. -/
import Derived.Test.YtahimopjohdkjaaK3
import Derived.Test.YtahimopjohdkjaaK2
namespace Go.Proofs.Ytahimopjohdkjaa
open Go.Eng Go.RowKit Go.WideMaps

theorem idArr : ArrKey Try.prog t_api_ID t_uint8 32 := ⟨by kernel_rfl, by kernel_rfl, by kernel_rfl, by kernel_rfl⟩
def idOk (a : List Int) : Prop := a.length = 32 ∧ ∀ x ∈ a, (Lit.int .u8 x).wf = true
theorem idMK : MK Try.prog t_api_ID (fun a : List Int => .agg ⟨a.map (Value.int .u8)⟩) idOk := mk_ints idArr (by kernel_rfl) ⟨_, (by kernel_rfl : Try.prog.types.size = (Try.prog.types.size - 1) + 1)⟩

/-- A blob that is kept, and where. -/
structure Kp where
  id : List Int
  b : List Int
  g : Nat
  v : Value
def kP (e : Kp) : List SP := [pt e.g t_blob_kept [e.v], rB e.v e.b]
def kF : List Kp → List SP
  | [] => []
  | e :: l => kP e ++ kF l
def kM : List Kp → List (List Int × Value)
  | [] => []
  | e :: l => (e.id, .pointer (some ⟨e.g, 0, none⟩)) :: kM l
def findK (a : List Int) : List Kp → Option Kp
  | [] => none
  | e :: l => if e.id = a then some e else findK a l
abbrev mpB (gm : Nat) (l : List Kp) : SP := mp gm (fun a : List Int => .agg ⟨a.map (Value.int .u8)⟩) idOk (kM l)
abbrev stC (w r u : Int) (gm : Nat) : List Value := [.int .i64 w, .int .i64 r, .int .i64 u, .map (some gm)]
abbrev stB (gs gm : Nat) (w r u : Int) (l : List Kp) (F : List SP) : List SP := pt gs t_blob_Store (stC w r u gm) :: mpB gm l :: all (kF l) :: F

theorem getM_k (a : List Int) (l : List Kp) : getM a (kM l) = (findK a l).map fun e => .pointer (some ⟨e.g, 0, none⟩) := by
  induction l with
  | nil => rfl
  | cons e l ih =>
    simp only [kM, getM, findK]
    split
    · rfl
    · exact ih
theorem kF_perm {l : List Kp} {a : List Int} {e : Kp} (h : findK a l = some e) : ∃ l1 l2, l = l1 ++ e :: l2 ∧ e.id = a ∧ findK a l1 = none ∧ (kF l).Perm (kP e ++ kF (l1 ++ l2)) := by
  induction l with
  | nil => cases h
  | cons x l ih =>
    simp only [findK] at h
    split at h
    · cases h
      exact ⟨[], l, rfl, by assumption, rfl, List.Perm.refl _⟩
    · rename_i hx
      obtain ⟨l1, l2, rfl, h1, h2, h3⟩ := ih h
      refine ⟨x :: l1, l2, rfl, h1, by simp only [findK]; rw [if_neg hx]; exact h2, ?_⟩
      simp only [kF, List.cons_append]
      refine (h3.append_left (kP x)).trans ?_
      rw [← List.append_assoc, ← List.append_assoc]
      exact List.perm_append_comm.append_right _

section
variable {b : World} {F : List SP} {gs gm : Nat} {w r u : Int} {l : List Kp}
theorem none_S : SC Try.prog n_p_blob_Store_none [.pointer (some ⟨gs, 0, none⟩)] b (stB gs gm w r u l F) (fun v F' => v = .bool false ∧ F' = stB gs gm w r u l F) := by
  refine enterS F_p_blob_Store_none rfl rfl rfl ?_
  (refine sw_seq ?_; refine sw_region ?_; refine so_1 rfl ?_; refine so_nil ?_; refine sn_then ?_; refine sw_seq ?_; refine sw_region ?_; (iterate 6 refine so_1 rfl ?_); refine so_l 0 rfl rfl rfl ?_; (iterate 3 refine so_1 rfl ?_); refine so_nil ?_; refine sn_then ?_; refine sw_ret ?_)
  refine sn_ret rfl (.tmp rfl .nil) (ent_keep 0 [] rfl rfl) ?_
  exact ⟨rfl, rfl⟩
theorem noneN_S : SC Try.prog n_p_blob_Store_none [.pointer none] b F (fun v F' => v = .bool true ∧ F' = F) := by
  refine enterS F_p_blob_Store_none rfl rfl rfl ?_
  (refine sw_seq ?_; refine sw_region ?_; refine so_1 rfl ?_; refine so_nil ?_; refine sn_then ?_; refine sw_seq ?_; refine sw_region ?_; (iterate 10 refine so_1 rfl ?_); refine so_nil ?_; refine sn_then ?_; refine sw_ret ?_)
  refine sn_ret rfl (.tmp rfl .nil) (ent_keep 0 [] rfl rfl) ?_
  exact ⟨rfl, rfl⟩
theorem noneE_S : SC Try.prog n_p_blob_Store_none [.pointer (some ⟨gs, 0, none⟩)] b (pt gs t_blob_Store [.int .i64 0, .int .i64 0, .int .i64 0, .map none] :: F) (fun v F' => v = .bool true ∧ F' = pt gs t_blob_Store [.int .i64 0, .int .i64 0, .int .i64 0, .map none] :: F) := by
  refine enterS F_p_blob_Store_none rfl rfl rfl ?_
  (refine sw_seq ?_; refine sw_region ?_; refine so_1 rfl ?_; refine so_nil ?_; refine sn_then ?_; refine sw_seq ?_; refine sw_region ?_; (iterate 6 refine so_1 rfl ?_); refine so_l 0 rfl rfl rfl ?_; (iterate 3 refine so_1 rfl ?_); refine so_nil ?_; refine sn_then ?_; refine sw_ret ?_)
  refine sn_ret rfl (.tmp rfl .nil) (ent_keep 0 [] rfl rfl) ?_
  exact ⟨rfl, rfl⟩
end
end Go.Proofs.Ytahimopjohdkjaa
/- Blobs, part two: Width, Room, Used, New, and what tells a blob. Conditions: not too many bytes. -/
namespace Go.Proofs.Ytahimopjohdkjaa
open Go.Eng Go.RowKit Go.WideMaps

section
variable {b : World} {F : List SP} {gs gm : Nat} {w r u : Int} {l : List Kp}
theorem Width_S : SC Try.prog n_p_blob_Store_Width [.pointer (some ⟨gs, 0, none⟩)] b (stB gs gm w r u l F) (fun v F' => v = .int .i64 w ∧ F' = stB gs gm w r u l F) := by
  refine enterS F_p_blob_Store_Width rfl rfl rfl ?_
  (refine sw_seq ?_; refine sw_region ?_; refine so_1 rfl ?_; refine so_nil ?_; refine sn_then ?_; (iterate 2 refine sw_seq ?_); refine sw_region ?_; refine so_1 rfl ?_)
  refine so_callE rfl rfl rfl (none_S) ?_
  (refine so_nil ?_; refine sn_then ?_; refine sw_cond_f rfl ?_; refine sw_skip ?_; refine sn_then ?_; refine sw_seq ?_; refine sw_region ?_; (iterate 3 refine so_1 rfl ?_); refine so_l 0 rfl rfl rfl ?_; refine so_1 rfl ?_; refine so_nil ?_; refine sn_then ?_; refine sw_ret ?_)
  refine sn_ret rfl (.tmp rfl .nil) (ent_keep 0 [] rfl rfl) ?_
  exact ⟨rfl, rfl⟩
theorem Room_S : SC Try.prog n_p_blob_Store_Room [.pointer (some ⟨gs, 0, none⟩)] b (stB gs gm w r u l F) (fun v F' => v = .int .i64 r ∧ F' = stB gs gm w r u l F) := by
  refine enterS F_p_blob_Store_Room rfl rfl rfl ?_
  (refine sw_seq ?_; refine sw_region ?_; refine so_1 rfl ?_; refine so_nil ?_; refine sn_then ?_; (iterate 2 refine sw_seq ?_); refine sw_region ?_; refine so_1 rfl ?_)
  refine so_callE rfl rfl rfl (none_S) ?_
  (refine so_nil ?_; refine sn_then ?_; refine sw_cond_f rfl ?_; refine sw_skip ?_; refine sn_then ?_; refine sw_seq ?_; refine sw_region ?_; (iterate 3 refine so_1 rfl ?_); refine so_l 0 rfl rfl rfl ?_; refine so_1 rfl ?_; refine so_nil ?_; refine sn_then ?_; refine sw_ret ?_)
  refine sn_ret rfl (.tmp rfl .nil) (ent_keep 0 [] rfl rfl) ?_
  exact ⟨rfl, rfl⟩
theorem Used_S : SC Try.prog n_p_blob_Store_Used [.pointer (some ⟨gs, 0, none⟩)] b (stB gs gm w r u l F) (fun v F' => v = .int .i64 u ∧ F' = stB gs gm w r u l F) := by
  refine enterS F_p_blob_Store_Used rfl rfl rfl ?_
  (refine sw_seq ?_; refine sw_region ?_; refine so_1 rfl ?_; refine so_nil ?_; refine sn_then ?_; (iterate 2 refine sw_seq ?_); refine sw_region ?_; refine so_1 rfl ?_)
  refine so_callE rfl rfl rfl (none_S) ?_
  (refine so_nil ?_; refine sn_then ?_; refine sw_cond_f rfl ?_; refine sw_skip ?_; refine sn_then ?_; refine sw_seq ?_; refine sw_region ?_; (iterate 3 refine so_1 rfl ?_); refine so_l 0 rfl rfl rfl ?_; refine so_1 rfl ?_; refine so_nil ?_; refine sn_then ?_; refine sw_ret ?_)
  refine sn_ret rfl (.tmp rfl .nil) (ent_keep 0 [] rfl rfl) ?_
  exact ⟨rfl, rfl⟩
def newOk (w r : Int) : Prop := ¬ w < 1 ∧ ¬ 32 < w ∧ ¬ r < 0 ∧ ¬ 67108864 < r
theorem New_blob_bad (h : ¬ newOk w r) : SC Try.prog n_blob_New [.int .i64 w, .int .i64 r] b F (fun v F' => v = .tuple ⟨[.pointer none, .int .i64 3]⟩ ∧ F' = F) := by
  refine enterS F_blob_New rfl rfl rfl ?_
  (refine sw_seq ?_; refine sw_region ?_; (iterate 2 refine so_1 rfl ?_); refine so_nil ?_; refine sn_then ?_; (iterate 2 refine sw_seq ?_); refine sw_region ?_; (iterate 3 refine so_1 rfl ?_))
  refine so_if 8 rfl (fun h1 => ?_) (fun h1 => ?_)
  · ((iterate 11 refine so_1 rfl ?_); refine so_nil ?_; refine sn_then ?_; refine sw_cond_t rfl ?_; refine sw_seq ?_; refine sw_region ?_; (iterate 2 refine so_1 rfl ?_); refine so_nil ?_; refine sn_then ?_; refine sw_ret ?_; refine sn_then_ret ?_)
    refine sn_ret rfl (.tmp rfl (.tmp rfl .nil)) (ent_keep 0 [] rfl rfl) ?_
    exact ⟨rfl, rfl⟩
  ((iterate 4 refine so_1 rfl ?_))
  refine so_if 12 rfl (fun h2 => ?_) (fun h2 => ?_)
  · ((iterate 7 refine so_1 rfl ?_); refine so_nil ?_; refine sn_then ?_; refine sw_cond_t rfl ?_; refine sw_seq ?_; refine sw_region ?_; (iterate 2 refine so_1 rfl ?_); refine so_nil ?_; refine sn_then ?_; refine sw_ret ?_; refine sn_then_ret ?_)
    refine sn_ret rfl (.tmp rfl (.tmp rfl .nil)) (ent_keep 0 [] rfl rfl) ?_
    exact ⟨rfl, rfl⟩
  ((iterate 4 refine so_1 rfl ?_))
  refine so_if 16 rfl (fun h3 => ?_) (fun h3 => ?_)
  · ((iterate 3 refine so_1 rfl ?_); refine so_nil ?_; refine sn_then ?_; refine sw_cond_t rfl ?_; refine sw_seq ?_; refine sw_region ?_; (iterate 2 refine so_1 rfl ?_); refine so_nil ?_; refine sn_then ?_; refine sw_ret ?_; refine sn_then_ret ?_)
    refine sn_ret rfl (.tmp rfl (.tmp rfl .nil)) (ent_keep 0 [] rfl rfl) ?_
    exact ⟨rfl, rfl⟩
  ((iterate 3 refine so_1 rfl ?_); refine so_nil ?_; refine sn_then ?_)
  refine sw_if rfl (fun h4 => ?_) (fun h4 => (h ⟨h1, h2, h3, h4⟩).elim)
  (refine sw_seq ?_; refine sw_region ?_; (iterate 2 refine so_1 rfl ?_); refine so_nil ?_; refine sn_then ?_; refine sw_ret ?_; refine sn_then_ret ?_)
  refine sn_ret rfl (.tmp rfl (.tmp rfl .nil)) (ent_keep 0 [] rfl rfl) ?_
  exact ⟨rfl, rfl⟩
theorem New_blob_S (h : newOk w r) : SC Try.prog n_blob_New [.int .i64 w, .int .i64 r] b F (fun v F' => ∃ gs gm, v = .tuple ⟨[.pointer (some ⟨gs, 0, none⟩), .int .i64 0]⟩ ∧ F' = stB gs gm w r 0 [] F) := by
  obtain ⟨h1, h2, h3, h4⟩ := h
  refine enterS F_blob_New rfl rfl rfl ?_
  (refine sw_seq ?_; refine sw_region ?_; (iterate 2 refine so_1 rfl ?_); refine so_nil ?_; refine sn_then ?_; (iterate 2 refine sw_seq ?_); refine sw_region ?_; (iterate 3 refine so_1 rfl ?_))
  refine so_if 8 rfl (fun h => (h1 h).elim) (fun h => ?_)
  ((iterate 4 refine so_1 rfl ?_))
  refine so_if 12 rfl (fun h => (h2 h).elim) (fun h => ?_)
  ((iterate 4 refine so_1 rfl ?_))
  refine so_if 16 rfl (fun h => (h3 h).elim) (fun h => ?_)
  ((iterate 3 refine so_1 rfl ?_); refine so_nil ?_; refine sn_then ?_)
  refine sw_if rfl (fun h => (h4 h).elim) (fun h => ?_)
  (refine sw_skip ?_; refine sn_then ?_; refine sw_seq ?_; refine sw_region ?_; (iterate 2 refine so_1 rfl ?_))
  refine so_mkmap (fun a : List Int => .agg ⟨a.map (Value.int .u8)⟩) idOk rfl rfl rfl fun gm => ?_
  (refine so_1 rfl ?_)
  refine so_box rfl rfl rfl rfl rfl fun gs => ?_
  ((iterate 2 refine so_1 rfl ?_); refine so_nil ?_; refine sn_then ?_; refine sw_ret ?_)
  refine sn_ret rfl (.tmp rfl (.tmp rfl .nil)) ((ent_keep 2 [0, 1] rfl rfl).trans ((ent_close (G := []) (F := pt gs t_blob_Store (stC w r 0 gm) :: mpB gm [] :: F)).trans (ent_keep 3 [1, 2, 0] rfl rfl))) ?_
  exact ⟨gs, gm, rfl, rfl⟩
/-- A blob is found. -/
theorem ent_find {a : List Int} {e : Kp} (h : findK a l = some e) : ∃ l1 l2, l = l1 ++ e :: l2 ∧ e.id = a ∧ findK a l1 = none ∧ (∀ F, Ent (all (kF l) :: F) (pt e.g t_blob_kept [e.v] :: rB e.v e.b :: all (kF (l1 ++ l2)) :: F)) ∧ ∀ F, Ent (pt e.g t_blob_kept [e.v] :: rB e.v e.b :: all (kF (l1 ++ l2)) :: F) (all (kF l) :: F) := by
  obtain ⟨l1, l2, h1, h2, h3, h4⟩ := kF_perm h
  exact ⟨l1, l2, h1, h2, h3, fun F => ent_out h4, fun F => ent_in h4⟩
theorem Get_none {id : List Int} (hid : idOk id) (h : findK id l = none) :
    SC Try.prog n_p_blob_Store_Get [.pointer (some ⟨gs, 0, none⟩), idV id] b (stB gs gm w r u l F) (fun v F' => v = .tuple ⟨[.slice none 0 0, .bool false]⟩ ∧ F' = stB gs gm w r u l F) := by
  refine enterS F_p_blob_Store_Get rfl rfl rfl ?_
  (refine sw_seq ?_; refine sw_region ?_)
  refine so_box rfl rfl rfl rfl rfl fun gi => ?_
  ((iterate 2 refine so_1 rfl ?_); refine so_nil ?_; refine sn_then ?_; (iterate 2 refine sw_seq ?_); refine sw_region ?_; refine so_1 rfl ?_)
  refine so_callE rfl rfl rfl ((none_S (F := pt gi t_api_ID (u8s id) :: F)).at (ent_keep 4 [1, 2, 3, 0] rfl rfl) (ent_keep 4 [3, 0, 1, 2] rfl rfl)) ?_
  (refine so_nil ?_; refine sn_then ?_; refine sw_cond_f rfl ?_; refine sw_skip ?_; refine sn_then ?_; refine sw_seq ?_)
  refine sw_draw flo (pt gi t_api_ID (u8s id) :: stB gs gm w r u l F) (by decide +kernel) (Ent.refl _) ?_
  ((iterate 3 refine sd_1 rfl (.inl rfl) ?_); refine sd_l 1 rfl rfl rfl rfl ?_)
  refine sd_ldA 0 rfl rfl rfl rfl rfl rfl (segID hid.1) rfl rfl ?_
  refine sd_look0 2 idMK hid (by rw [getM_k, h]; rfl) rfl rfl rfl rfl rfl rfl rfl rfl rfl ?_
  ((iterate 5 refine sd_1 rfl (.inl rfl) ?_))
  refine sd_nil ?_
  (refine sn_then ?_; (iterate 2 refine sw_seq ?_); refine sw_region ?_; (iterate 2 refine so_1 rfl ?_); refine so_nil ?_; refine sn_then ?_; refine sw_cond_t rfl ?_; refine sw_seq ?_; refine sw_region ?_; (iterate 2 refine so_1 rfl ?_); refine so_nil ?_; refine sn_then ?_; refine sw_ret ?_; refine sn_then_ret ?_)
  refine sn_ret rfl (.tmp rfl (.tmp rfl .nil)) (ent_keep 1 [] rfl rfl) ?_
  exact ⟨rfl, rfl⟩
theorem Get_some {id : List Int} {e : Kp} (hid : idOk id) (h : findK id l = some e) (hlen : e.b.length ≤ 1000000) :
    SC Try.prog n_p_blob_Store_Get [.pointer (some ⟨gs, 0, none⟩), idV id] b (stB gs gm w r u l F) (fun v F' => ∃ v1, v = .tuple ⟨[v1, .bool true]⟩ ∧ F' = rB v1 e.b :: stB gs gm w r u l F) := by
  obtain ⟨l1, l2, h1, h2, h3, h4, h5⟩ := ent_find (l := l) h
  refine enterS F_p_blob_Store_Get rfl rfl rfl ?_
  (refine sw_seq ?_; refine sw_region ?_)
  refine so_box rfl rfl rfl rfl rfl fun gi => ?_
  ((iterate 2 refine so_1 rfl ?_); refine so_nil ?_; refine sn_then ?_; (iterate 2 refine sw_seq ?_); refine sw_region ?_; refine so_1 rfl ?_)
  refine so_callE rfl rfl rfl ((none_S (F := pt gi t_api_ID (u8s id) :: F)).at (ent_keep 4 [1, 2, 3, 0] rfl rfl) (ent_keep 4 [3, 0, 1, 2] rfl rfl)) ?_
  (refine so_nil ?_; refine sn_then ?_; refine sw_cond_f rfl ?_; refine sw_skip ?_; refine sn_then ?_; refine sw_seq ?_)
  refine sw_draw flo (pt gi t_api_ID (u8s id) :: stB gs gm w r u l F) (by decide +kernel) (Ent.refl _) ?_
  ((iterate 3 refine sd_1 rfl (.inl rfl) ?_); refine sd_l 1 rfl rfl rfl rfl ?_)
  refine sd_ldA 0 rfl rfl rfl rfl rfl rfl (segID hid.1) rfl rfl ?_
  refine sd_look1 2 idMK hid (by rw [getM_k, h]; rfl) rfl rfl rfl rfl rfl rfl rfl rfl rfl ?_
  ((iterate 5 refine sd_1 rfl (.inl rfl) ?_))
  refine sd_nil ?_
  (refine sn_then ?_; (iterate 2 refine sw_seq ?_); refine sw_region ?_)
  refine so_ent ((ent_keep 4 [3, 0, 1, 2] rfl rfl : Ent _ (all (kF l) :: pt gi t_api_ID (u8s id) :: pt gs t_blob_Store (stC w r u gm) :: mpB gm l :: F)).trans (h4 _)) ?_
  ((iterate 2 refine so_1 rfl ?_); refine so_nil ?_; refine sn_then ?_; refine sw_cond_f rfl ?_; refine sw_skip ?_; refine sn_then ?_; refine sw_seq ?_; refine sw_region ?_; (iterate 3 refine so_1 rfl ?_); refine so_l 0 rfl rfl rfl ?_)
  refine so_call rfl rfl rfl (SC.ofMade fun w H => Clone_spec (vlB (k := 1) rfl w H) (by omega)) ?_
  rintro v1 _ rfl
  refine so_ent (ent_rB (l := e.b) 0 rfl rfl rfl rfl) ?_
  ((iterate 2 refine so_1 rfl ?_); refine so_nil ?_; refine sn_then ?_; refine sw_ret ?_)
  refine sn_ret rfl (.tmp rfl (.tmp rfl .nil)) ((ent_cons (h5 _)).trans (ent_keep 5 [0, 3, 4, 1] rfl rfl)) ?_
  exact ⟨v1, rfl, rfl⟩
end
end Go.Proofs.Ytahimopjohdkjaa
/- Blobs, part three: Size and Drop. Conditions: not too many bytes. -/
namespace Go.Proofs.Ytahimopjohdkjaa
open Go.Eng Go.RowKit Go.WideMaps

def delK (a : List Int) : List Kp → List Kp
  | [] => []
  | e :: l => if e.id = a then l else e :: delK a l
theorem delM_k (a : List Int) (l : List Kp) : delM a (kM l) = kM (delK a l) := by
  induction l with
  | nil => rfl
  | cons e l ih =>
    simp only [kM, delM, delK]
    split
    · rfl
    · simp only [kM, ih]
theorem delK_split {a : List Int} {l1 l2 : List Kp} {e : Kp} (h : findK a l1 = none) (he : e.id = a) : delK a (l1 ++ e :: l2) = l1 ++ l2 := by
  induction l1 with
  | nil => simp [delK, he]
  | cons x l ih =>
    simp only [findK] at h
    split at h
    · cases h
    · rename_i hx
      simp only [List.cons_append, delK, if_neg hx, ih h]
section
variable {b : World} {F : List SP} {gs gm : Nat} {w r u : Int} {l : List Kp}
theorem Size_none {id : List Int} (hid : idOk id) (h : findK id l = none) :
    SC Try.prog n_p_blob_Store_Size [.pointer (some ⟨gs, 0, none⟩), idV id] b (stB gs gm w r u l F) (fun v F' => v = .tuple ⟨[.int .i64 0, .bool false]⟩ ∧ F' = stB gs gm w r u l F) := by
  refine enterS F_p_blob_Store_Size rfl rfl rfl ?_
  (refine sw_seq ?_; refine sw_region ?_)
  refine so_box rfl rfl rfl rfl rfl fun gi => ?_
  ((iterate 2 refine so_1 rfl ?_); refine so_nil ?_; refine sn_then ?_; refine sw_seq ?_; refine sw_region ?_; refine so_1 rfl ?_)
  refine so_ldA 0 rfl rfl rfl rfl rfl rfl (segID hid.1) rfl ?_
  refine so_callE rfl rfl rfl ((Get_none (F := pt gi t_api_ID (u8s id) :: F) hid h).at (ent_keep 4 [1, 2, 3, 0] rfl rfl) (ent_keep 4 [3, 0, 1, 2] rfl rfl)) ?_
  ((iterate 5 refine so_1 rfl ?_); refine so_nil ?_; refine sn_then ?_; refine sw_seq ?_; refine sw_region ?_; (iterate 5 refine so_1 rfl ?_); refine so_nil ?_; refine sn_then ?_; refine sw_ret ?_)
  refine sn_ret rfl (.tmp rfl (.tmp rfl .nil)) (ent_keep 1 [] rfl rfl) ?_
  exact ⟨rfl, rfl⟩
theorem Size_some {id : List Int} {e : Kp} (hid : idOk id) (h : findK id l = some e) (hlen : e.b.length ≤ 1000000) :
    SC Try.prog n_p_blob_Store_Size [.pointer (some ⟨gs, 0, none⟩), idV id] b (stB gs gm w r u l F) (fun v F' => v = .tuple ⟨[.int .i64 e.b.length, .bool true]⟩ ∧ F' = stB gs gm w r u l F) := by
  refine enterS F_p_blob_Store_Size rfl rfl rfl ?_
  (refine sw_seq ?_; refine sw_region ?_)
  refine so_box rfl rfl rfl rfl rfl fun gi => ?_
  ((iterate 2 refine so_1 rfl ?_); refine so_nil ?_; refine sn_then ?_; refine sw_seq ?_; refine sw_region ?_; refine so_1 rfl ?_)
  refine so_ldA 0 rfl rfl rfl rfl rfl rfl (segID hid.1) rfl ?_
  refine so_call rfl rfl rfl ((Get_some (F := pt gi t_api_ID (u8s id) :: F) hid h hlen).ent (ent_keep 4 [1, 2, 3, 0] rfl rfl)) ?_
  rintro _ _ ⟨v1, rfl, rfl⟩
  refine so_fact (fun w H => (H.oat (k := 0) rfl).form) ?_
  rintro ⟨A7, c7, rfl, _, _, _⟩
  ((iterate 5 refine so_1 rfl ?_); refine so_nil ?_; refine sn_then ?_; refine sw_seq ?_; refine sw_region ?_; (iterate 5 refine so_1 rfl ?_); refine so_nil ?_; refine sn_then ?_; refine sw_ret ?_)
  refine sn_ret rfl (.tmp rfl (.tmp rfl .nil)) (ent_keep 5 [1, 2, 3] rfl rfl) ?_
  exact ⟨rfl, rfl⟩
theorem Drop_none {id : List Int} (hid : idOk id) (h : findK id l = none) :
    SC Try.prog n_p_blob_Store_Drop [.pointer (some ⟨gs, 0, none⟩), idV id] b (stB gs gm w r u l F) (fun v F' => v = .bool false ∧ F' = stB gs gm w r u l F) := by
  refine enterS F_p_blob_Store_Drop rfl rfl rfl ?_
  (refine sw_seq ?_; refine sw_region ?_)
  refine so_box rfl rfl rfl rfl rfl fun gi => ?_
  (refine so_1 rfl ?_; refine so_nil ?_; refine sn_then ?_; refine sw_seq ?_; refine sw_region ?_; refine so_1 rfl ?_)
  refine so_ldA 0 rfl rfl rfl rfl rfl rfl (segID hid.1) rfl ?_
  refine so_callE rfl rfl rfl ((Size_none (F := pt gi t_api_ID (u8s id) :: F) hid h).at (ent_keep 4 [1, 2, 3, 0] rfl rfl) (ent_keep 4 [3, 0, 1, 2] rfl rfl)) ?_
  ((iterate 5 refine so_1 rfl ?_); refine so_nil ?_; refine sn_then ?_; (iterate 2 refine sw_seq ?_); refine sw_region ?_; refine so_1 rfl ?_; refine so_nil ?_; refine sn_then ?_; refine sw_cond_f rfl ?_; refine sw_skip ?_; refine sn_then ?_; refine sw_seq ?_; refine sw_region ?_; (iterate 2 refine so_1 rfl ?_); refine so_nil ?_; refine sn_then ?_; refine sw_ret ?_)
  refine sn_ret rfl (.tmp rfl .nil) (ent_keep 1 [] rfl rfl) ?_
  exact ⟨rfl, rfl⟩
theorem Drop_some {id : List Int} {e : Kp} (hid : idOk id) (h : findK id l = some e) (hlen : e.b.length ≤ 1000000) (hu : (e.b.length : Int) ≤ u) (hu2 : u ≤ 67108864) :
    SC Try.prog n_p_blob_Store_Drop [.pointer (some ⟨gs, 0, none⟩), idV id] b (stB gs gm w r u l F) (fun v F' => v = .bool true ∧ F' = stB gs gm w r (u - e.b.length) (delK id l) F) := by
  obtain ⟨l1, l2, h1, h2, h3, h4, h5⟩ := ent_find (l := l) h
  have hd : delK id l = l1 ++ l2 := by rw [h1]; exact delK_split h3 h2
  refine enterS F_p_blob_Store_Drop rfl rfl rfl ?_
  (refine sw_seq ?_; refine sw_region ?_)
  refine so_box rfl rfl rfl rfl rfl fun gi => ?_
  (refine so_1 rfl ?_; refine so_nil ?_; refine sn_then ?_; refine sw_seq ?_; refine sw_region ?_; refine so_1 rfl ?_)
  refine so_ldA 0 rfl rfl rfl rfl rfl rfl (segID hid.1) rfl ?_
  refine so_callE rfl rfl rfl ((Size_some (F := pt gi t_api_ID (u8s id) :: F) hid h hlen).at (ent_keep 4 [1, 2, 3, 0] rfl rfl) (ent_keep 4 [3, 0, 1, 2] rfl rfl)) ?_
  ((iterate 5 refine so_1 rfl ?_); refine so_nil ?_; refine sn_then ?_; (iterate 2 refine sw_seq ?_); refine sw_region ?_; refine so_1 rfl ?_; refine so_nil ?_; refine sn_then ?_; refine sw_cond_t rfl ?_; refine sw_seq ?_; refine sw_region ?_; (iterate 3 refine so_1 rfl ?_); refine so_l 1 rfl rfl rfl ?_; refine so_1 rfl ?_; refine so_2 rfl (by (unfold I64; omega)) ?_; (iterate 2 refine so_1 rfl ?_); refine so_s1 1 rfl rfl rfl rfl ?_; refine so_nil ?_; refine sn_then ?_)
  refine sw_draw flo (pt gi t_api_ID (u8s id) :: pt gs t_blob_Store (stC w r (u - e.b.length) gm) :: F) (by decide +kernel) (ent_keep 4 [0, 1] rfl rfl) ?_
  ((iterate 3 refine sd_1 rfl (.inl rfl) ?_); refine sd_l 1 rfl rfl rfl rfl ?_)
  refine sd_ldA 0 rfl rfl rfl rfl rfl rfl (segID hid.1) rfl rfl ?_
  refine sd_del 2 idMK hid rfl rfl rfl rfl rfl rfl rfl rfl (ent_keep 4 [0, 1] rfl rfl) ?_
  refine sd_nil ?_
  rw [delM_k, hd]
  (refine sn_then ?_; refine sw_seq ?_; refine sw_region ?_; (iterate 2 refine so_1 rfl ?_); refine so_nil ?_; refine sn_then ?_; refine sw_ret ?_)
  refine sn_ret rfl (.tmp rfl .nil) (((ent_keep 4 [3, 1, 2] rfl rfl : Ent _ (all (kF l) :: pt gs t_blob_Store (stC w r (u - e.b.length) gm) :: mpB gm (l1 ++ l2) :: F)).trans (h4 _)).trans (ent_keep 5 [3, 4, 2] rfl rfl)) ?_
  exact ⟨rfl, rfl⟩
end
end Go.Proofs.Ytahimopjohdkjaa
/- Blobs, part four: what Put asks. Conditions: not too many bytes. -/
namespace Go.Proofs.Ytahimopjohdkjaa
open Go.Eng Go.RowKit Go.WideMaps

theorem u8wf (x : Int) : (Lit.int .u8 x).wf = true ↔ 0 ≤ x ∧ x < 256 := by
  have h1 : IntKind.u8.min = 0 := by decide
  have h2 : IntKind.u8.max = 255 := by decide
  simp [Lit.wf, h1, h2]; omega
theorem idOk_of {a : List Int} (h : a.length = 32) (hw : byteW a) : idOk a := ⟨h, fun x hx => (u8wf x).2 (hw x hx)⟩
theorem strOf_inj : ∀ {x y : List Int}, byteW x → byteW y → (strOfNums x).data = (strOfNums y).data → x = y := by
  have key : ∀ z : List Int, byteW z → (z.map fun n => UInt8.ofNat n.toNat).map (fun u => (u.toNat : Int)) = z := fun z hz => by
    rw [List.map_map]
    conv => rhs; rw [← List.map_id z]
    refine List.map_congr_left fun n hn => ?_
    have := hz n hn
    simp only [Function.comp, id, UInt8.toNat_ofNat']
    omega
  intro x y hx hy h
  have h1 : (strOfNums x).data.toList = (strOfNums y).data.toList := by rw [h]
  simp only [strOfNums] at h1
  rw [← key x hx, ← key y hy, h1]
theorem strOf_dec {x y : List Int} (hx : byteW x) (hy : byteW y) : decide ((strOfNums x).data = (strOfNums y).data) = decide (x = y) := decide_eq_decide.2 ⟨strOf_inj hx hy, fun h => by rw [h]⟩
section
variable {b : World} {F : List SP}
theorem when_t {e : Int} : SC Try.prog n_blob_when [.bool true, .int .i64 e] b F (fun v F' => v = .int .i64 e ∧ F' = F) := by
  refine enterS F_blob_when rfl rfl rfl ?_
  (refine sw_seq ?_; refine sw_region ?_; refine so_1 rfl ?_; refine so_nil ?_; refine sn_then ?_; (iterate 2 refine sw_seq ?_); refine sw_region ?_; refine so_1 rfl ?_; refine so_nil ?_; refine sn_then ?_; refine sw_cond_t rfl ?_; refine sw_seq ?_; refine sw_region ?_; (iterate 2 refine so_1 rfl ?_); refine so_nil ?_; refine sn_then ?_; refine sw_ret ?_; refine sn_then_ret ?_)
  refine sn_ret rfl (.tmp rfl .nil) (ent_keep 0 [] rfl rfl) ?_
  exact ⟨rfl, rfl⟩
theorem when_f {e : Int} : SC Try.prog n_blob_when [.bool false, .int .i64 e] b F (fun v F' => v = .int .i64 0 ∧ F' = F) := by
  refine enterS F_blob_when rfl rfl rfl ?_
  (refine sw_seq ?_; refine sw_region ?_; refine so_1 rfl ?_; refine so_nil ?_; refine sn_then ?_; (iterate 2 refine sw_seq ?_); refine sw_region ?_; refine so_1 rfl ?_; refine so_nil ?_; refine sn_then ?_; refine sw_cond_f rfl ?_; refine sw_skip ?_; refine sn_then ?_; refine sw_seq ?_; refine sw_region ?_; refine so_1 rfl ?_; refine so_nil ?_; refine sn_then ?_; refine sw_ret ?_)
  refine sn_ret rfl (.tmp rfl .nil) (ent_keep 0 [] rfl rfl) ?_
  exact ⟨rfl, rfl⟩
theorem Equal_S {va vb : Value} {xs ys : List Int} (ha : ∀ w, Sat b F w → VL (Value.int .u8) w va xs) (hb : ∀ w, Sat b F w → VL (Value.int .u8) w vb ys) :
    SC Try.prog n_bytes_Equal [va, vb] b F (fun v F' => v = .bool (decide ((strOfNums xs).data = (strOfNums ys).data)) ∧ F' = F) := by
  refine enterS F_bytes_Equal rfl rfl rfl ?_
  (refine sw_seq ?_; refine sw_region ?_; refine so_1 rfl ?_; refine so_nil ?_; refine sn_then ?_; refine sw_seq ?_; refine sw_region ?_; refine so_1 rfl ?_)
  refine so_b2s rfl rfl rfl rfl rfl rfl rfl ha ?_
  (refine so_1 rfl ?_)
  refine so_b2s rfl rfl rfl rfl rfl rfl rfl hb ?_
  ((iterate 2 refine so_1 rfl ?_); refine so_nil ?_; refine sn_then ?_; refine sw_ret ?_)
  refine sn_ret rfl (.tmp rfl .nil) (ent_keep 0 [] rfl rfl) ?_
  exact ⟨rfl, rfl⟩

/-! What Put asks, one behind the other. -/
variable {A : SP} {g9 g8 g5 g4 g3 gs gm : Nat} {is : Bool} {old vb : Value} {id xs : List Int} {w r u : Int} {l : List Kp}
abbrev putF (g9 g8 g5 g4 g3 : Nat) (is : Bool) (old vb : Value) (id : List Int) (gs gm : Nat) (w r u : Int) (l : List Kp) (F : List SP) : List SP :=
  pt g9 t_bool [.bool is] :: pt g8 t_p_blob_kept [old] :: pt g5 t_sl_uint8 [vb] :: pt g4 t_api_ID (u8s id) :: pt g3 t_p_blob_Store [.pointer (some ⟨gs, 0, none⟩)] :: stB gs gm w r u l F
theorem put1_S (hb : ∀ w, Sat b F w → VL (Value.int .u8) w vb xs) (hlen : xs.length ≤ 1000000) :
    SC Try.prog n_p_blob_Store_Put_1 [.pointer (some ⟨g5, 0, none⟩)] b (A :: putF g9 g8 g5 g4 g3 is old vb id gs gm w r u l F) (fun v F' => v = .int .i64 (if 4096 < xs.length then 4 else 0) ∧ F' = A :: putF g9 g8 g5 g4 g3 is old vb id gs gm w r u l F) := by
  refine enterS F_p_blob_Store_Put_1 rfl rfl rfl ?_
  refine sw_fact (fun w H => (hb w (H.ent (ent_keep 9 [] rfl rfl))).form) ?_
  rintro ⟨bA, bc, rfl, h1, h2, h3, h4⟩
  (refine sw_seq ?_; refine sw_region ?_; refine so_1 rfl ?_; refine so_nil ?_; refine sn_then ?_; refine sw_seq ?_; refine sw_region ?_; refine so_l 3 rfl rfl rfl ?_; (iterate 2 refine so_1 rfl ?_))
  by_cases h : 4096 < xs.length
  · refine so_know 4 (.bool true) rfl (congrArg Value.bool (decide_eq_true (by omega))) ?_
    refine so_callE rfl rfl rfl (when_t) ?_
    (refine so_1 rfl ?_; refine so_nil ?_; refine sn_then ?_; refine sw_ret ?_)
    refine sn_ret rfl (.tmp rfl .nil) (ent_keep 0 [] rfl rfl) ?_
    exact ⟨by rw [if_pos h]; rfl, rfl⟩
  · refine so_know 4 (.bool false) rfl (congrArg Value.bool (decide_eq_false (by omega))) ?_
    refine so_callE rfl rfl rfl (when_f) ?_
    (refine so_1 rfl ?_; refine so_nil ?_; refine sn_then ?_; refine sw_ret ?_)
    refine sn_ret rfl (.tmp rfl .nil) (ent_keep 0 [] rfl rfl) ?_
    exact ⟨by rw [if_neg h]; rfl, rfl⟩
theorem put2_S (hb : ∀ w, Sat b F w → VL (Value.int .u8) w vb xs) (hlen : xs.length ≤ 1000000) (hid : id.length = 32) :
    SC Try.prog n_p_blob_Store_Put_2 [.pointer (some ⟨g5, 0, none⟩), .pointer (some ⟨g3, 0, none⟩), .pointer (some ⟨g4, 0, none⟩)] b (A :: putF g9 g8 g5 g4 g3 is old vb id gs gm w r u l F)
      (fun v F' => v = .int .i64 (if cutR (sumM xs) w = id then 0 else 8) ∧ F' = A :: putF g9 g8 g5 g4 g3 is old vb id gs gm w r u l F) := by
  have hcl := cutR_len (sumM xs) w (sumM_len xs)
  have hOf : ∀ {b : World} {F : List SP}, (∀ w, Sat b F w → VL (Value.int .u8) w vb xs) → SC Try.prog n_sha_Of [vb, .int .i64 w] b F (fun v F' => v = .tuple ⟨[idV (cutR (sumM xs) w), .int .i64 (cutE w)]⟩ ∧ F' = F) := fun h => Of_S hlen h
  generalize cutR (sumM xs) w = own at *
  generalize cutE w = ce at *
  refine enterS F_p_blob_Store_Put_2 rfl rfl rfl ?_
  (refine sw_seq ?_; refine sw_region ?_; refine so_1 rfl ?_; refine so_nil ?_; refine sn_then ?_; refine sw_seq ?_)
  refine sw_freeC 10 [8] (fl := flo) [] [(0, .pointer (some ⟨g5, 0, none⟩)), (1, .pointer (some ⟨g3, 0, none⟩)), (2, .pointer (some ⟨g4, 0, none⟩))] ⟨rfl, rfl, rfl, trivial⟩ rfl (by kernel_rfl) (by kernel_rfl) (by decide) ?_
  (refine fc_ld 3 rfl rfl rfl rfl (fun _ => rfl) rfl rfl ?_; refine fc_ld 5 rfl rfl rfl rfl (fun _ => rfl) rfl rfl ?_; (iterate 2 refine fc_p (fun _ => rfl) ?_); refine fc_ld 6 rfl rfl rfl rfl (fun _ => rfl) rfl rfl ?_)
  refine fc_call rfl (fun _ => rfl) (fun w H => SC.pure (hOf fun w' H' => (hb w (H.ent (ent_keep 9 [] rfl rfl))).ext (H'.is (k := 0) rfl))) ?_
  ((iterate 3 refine fc_p (fun _ => rfl) ?_); refine fc_new rfl rfl rfl rfl ?_)
  refine .done rfl fun gg => ⟨ent_nil _, ?_⟩
  skip
  refine sd_stW 0 rfl rfl rfl rfl rfl rfl rfl rfl (by rw [u8s_len, hcl]; rfl) (u8s_one _) (by simp [hcl]) (ent_nil _) ?_
  (refine sd_1 rfl (.inl rfl) ?_)
  refine sd_nil ?_
  (refine sn_then ?_; refine sw_seq ?_; refine sw_region ?_)
  refine so_ldA 0 rfl rfl rfl rfl rfl rfl (segID hcl) rfl ?_
  refine so_ldA 5 rfl rfl rfl rfl rfl rfl (segID hid) rfl ?_
  refine so_pu rfl (pu_neI (as00 := own) (bs := id) rfl rfl hcl hid) rfl ?_
  by_cases h : own = id
  · refine so_know 17 (.bool false) rfl (by simp [h]) ?_
    refine so_callE rfl rfl rfl (when_f) ?_
    (refine so_1 rfl ?_; refine so_nil ?_; refine sn_then ?_; refine sw_ret ?_)
    refine sn_ret rfl (.tmp rfl .nil) (ent_keep 1 [] rfl rfl) ?_
    exact ⟨by rw [if_pos h]; rfl, rfl⟩
  · refine so_know 17 (.bool true) rfl (by simp [h]) ?_
    refine so_callE rfl rfl rfl (when_t) ?_
    (refine so_1 rfl ?_; refine so_nil ?_; refine sn_then ?_; refine sw_ret ?_)
    refine sn_ret rfl (.tmp rfl .nil) (ent_keep 1 [] rfl rfl) ?_
    exact ⟨by rw [if_neg h]; rfl, rfl⟩
theorem put3_f : SC Try.prog n_p_blob_Store_Put_3 [.pointer (some ⟨g9, 0, none⟩), .pointer (some ⟨g8, 0, none⟩), .pointer (some ⟨g5, 0, none⟩)] b (A :: putF g9 g8 g5 g4 g3 false old vb id gs gm w r u l F)
      (fun v F' => v = .int .i64 0 ∧ F' = A :: putF g9 g8 g5 g4 g3 false old vb id gs gm w r u l F) := by
  refine enterS F_p_blob_Store_Put_3 rfl rfl rfl ?_
  (refine sw_seq ?_; refine sw_region ?_; refine so_1 rfl ?_; refine so_nil ?_; refine sn_then ?_; refine sw_seq ?_)
  refine sw_draw flo (A :: putF g9 g8 g5 g4 g3 false old vb id gs gm w r u l F) (by decide +kernel) (Ent.refl _) ?_
  (refine sd_l 1 rfl rfl rfl rfl ?_; (iterate 6 refine sd_1 rfl (.inl rfl) ?_); refine sd_1 rfl (.inr rfl) ?_; (iterate 2 refine sd_1 rfl (.inl rfl) ?_))
  refine sd_callE rfl rfl rfl rfl (when_f) (Ent.refl _) ?_
  (refine sd_1 rfl (.inl rfl) ?_)
  refine sd_nil ?_
  (refine sn_then ?_; refine sw_ret ?_)
  refine sn_ret rfl (.tmp rfl .nil) (ent_keep 0 [] rfl rfl) ?_
  exact ⟨rfl, rfl⟩
theorem put3_t {e : Kp} (hb : ∀ w, Sat b F w → VL (Value.int .u8) w vb xs) (hlen : xs.length ≤ 1000000) (hw : byteW xs) (he : findK id l = some e) (hew : byteW e.b) :
    SC Try.prog n_p_blob_Store_Put_3 [.pointer (some ⟨g9, 0, none⟩), .pointer (some ⟨g8, 0, none⟩), .pointer (some ⟨g5, 0, none⟩)] b (A :: putF g9 g8 g5 g4 g3 true (.pointer (some ⟨e.g, 0, none⟩)) vb id gs gm w r u l F)
      (fun v F' => v = .int .i64 (if e.b = xs then 0 else 9) ∧ F' = A :: putF g9 g8 g5 g4 g3 true (.pointer (some ⟨e.g, 0, none⟩)) vb id gs gm w r u l F) := by
  obtain ⟨l1, l2, h1, h2, h3, h4, h5⟩ := ent_find (l := l) he
  refine enterS F_p_blob_Store_Put_3 rfl rfl rfl ?_
  (refine sw_seq ?_; refine sw_region ?_; refine so_1 rfl ?_; refine so_nil ?_; refine sn_then ?_; refine sw_seq ?_)
  refine sw_ent ((ent_keep 9 [8, 0, 1, 2, 3, 4, 5, 6, 7] rfl rfl : Ent _ (all (kF l) :: A :: pt g9 t_bool [.bool true] :: pt g8 t_p_blob_kept [.pointer (some ⟨e.g, 0, none⟩)] :: pt g5 t_sl_uint8 [vb] :: pt g4 t_api_ID (u8s id) :: pt g3 t_p_blob_Store [.pointer (some ⟨gs, 0, none⟩)] :: pt gs t_blob_Store (stC w r u gm) :: mpB gm l :: F)).trans (h4 _)) ?_
  refine sw_draw flo _ (by decide +kernel) (Ent.refl _) ?_
  (refine sd_l 4 rfl rfl rfl rfl ?_; refine sd_1 rfl (.inl rfl) ?_; refine sd_l 5 rfl rfl rfl rfl ?_; (iterate 2 refine sd_1 rfl (.inl rfl) ?_); refine sd_l 0 rfl rfl rfl rfl ?_; refine sd_l 6 rfl rfl rfl rfl ?_)
  refine sd_callE rfl rfl rfl rfl (Equal_S (vlB (k := 1) rfl) (up hb (ent_keep 11 [] rfl rfl))) (Ent.refl _) ?_
  ((iterate 2 refine sd_1 rfl (.inl rfl) ?_))
  have hdec := strOf_dec hew hw
  by_cases h : e.b = xs
  · refine sd_know 13 (.bool false) rfl (by simp [hdec, h]) ?_
    refine sd_callE rfl rfl rfl rfl (when_f) (Ent.refl _) ?_
    (refine sd_1 rfl (.inl rfl) ?_)
    refine sd_nil ?_
    (refine sn_then ?_; refine sw_ret ?_)
    refine sn_ret rfl (.tmp rfl .nil) ((h5 _).trans (ent_keep 9 [1, 2, 3, 4, 5, 6, 7, 8, 0] rfl rfl)) ?_
    exact ⟨by rw [if_pos h]; rfl, rfl⟩
  · refine sd_know 13 (.bool true) rfl (by simp [hdec, h]) ?_
    refine sd_callE rfl rfl rfl rfl (when_t) (Ent.refl _) ?_
    (refine sd_1 rfl (.inl rfl) ?_)
    refine sd_nil ?_
    (refine sn_then ?_; refine sw_ret ?_)
    refine sn_ret rfl (.tmp rfl .nil) ((h5 _).trans (ent_keep 9 [1, 2, 3, 4, 5, 6, 7, 8, 0] rfl rfl)) ?_
    exact ⟨by rw [if_neg h]; rfl, rfl⟩
theorem put4_t : SC Try.prog n_p_blob_Store_Put_4 [.pointer (some ⟨g9, 0, none⟩), .pointer (some ⟨g3, 0, none⟩), .pointer (some ⟨g5, 0, none⟩)] b (A :: putF g9 g8 g5 g4 g3 true old vb id gs gm w r u l F)
      (fun v F' => v = .int .i64 0 ∧ F' = A :: putF g9 g8 g5 g4 g3 true old vb id gs gm w r u l F) := by
  refine enterS F_p_blob_Store_Put_4 rfl rfl rfl ?_
  (refine sw_seq ?_; refine sw_region ?_; refine so_1 rfl ?_; refine so_nil ?_; refine sn_then ?_; refine sw_seq ?_)
  refine sw_draw flo (A :: putF g9 g8 g5 g4 g3 true old vb id gs gm w r u l F) (by decide +kernel) (Ent.refl _) ?_
  (refine sd_l 1 rfl rfl rfl rfl ?_; (iterate 15 refine sd_1 rfl (.inl rfl) ?_))
  refine sd_callE rfl rfl rfl rfl (when_f) (Ent.refl _) ?_
  (refine sd_1 rfl (.inl rfl) ?_)
  refine sd_nil ?_
  (refine sn_then ?_; refine sw_ret ?_)
  refine sn_ret rfl (.tmp rfl .nil) (ent_keep 0 [] rfl rfl) ?_
  exact ⟨rfl, rfl⟩
theorem put4_f (hb : ∀ w, Sat b F w → VL (Value.int .u8) w vb xs) (hlen : xs.length ≤ 1000000) (hu : 0 ≤ u ∧ u ≤ 67108864) :
    SC Try.prog n_p_blob_Store_Put_4 [.pointer (some ⟨g9, 0, none⟩), .pointer (some ⟨g3, 0, none⟩), .pointer (some ⟨g5, 0, none⟩)] b (A :: putF g9 g8 g5 g4 g3 false old vb id gs gm w r u l F)
      (fun v F' => v = .int .i64 (if r < u + xs.length then 10 else 0) ∧ F' = A :: putF g9 g8 g5 g4 g3 false old vb id gs gm w r u l F) := by
  refine enterS F_p_blob_Store_Put_4 rfl rfl rfl ?_
  refine sw_fact (fun w H => (hb w (H.ent (ent_keep 9 [] rfl rfl))).form) ?_
  rintro ⟨bA, bc, rfl, h1, h2, h3, h4⟩
  (refine sw_seq ?_; refine sw_region ?_; refine so_1 rfl ?_; refine so_nil ?_; refine sn_then ?_; refine sw_seq ?_)
  refine sw_draw flo (A :: putF g9 g8 g5 g4 g3 false old (.slice bA xs.length bc) id gs gm w r u l F) (by decide +kernel) (Ent.refl _) ?_
  (refine sd_l 1 rfl rfl rfl rfl ?_; (iterate 2 refine sd_1 rfl (.inl rfl) ?_); refine sd_l 5 rfl rfl rfl rfl ?_; (iterate 2 refine sd_1 rfl (.inl rfl) ?_); refine sd_l 6 rfl rfl rfl rfl ?_; refine sd_l 3 rfl rfl rfl rfl ?_; refine sd_1 rfl (.inl rfl) ?_; refine sd_2 rfl rfl (by (unfold I64; omega)) ?_; refine sd_l 5 rfl rfl rfl rfl ?_; (iterate 2 refine sd_1 rfl (.inl rfl) ?_); refine sd_l 6 rfl rfl rfl rfl ?_; (iterate 2 refine sd_1 rfl (.inl rfl) ?_))
  by_cases h : r < u + xs.length
  · refine sd_know 19 (.bool true) rfl (congrArg Value.bool (decide_eq_true h)) ?_
    refine sd_callE rfl rfl rfl rfl (when_t) (Ent.refl _) ?_
    (refine sd_1 rfl (.inl rfl) ?_)
    refine sd_nil ?_
    (refine sn_then ?_; refine sw_ret ?_)
    refine sn_ret rfl (.tmp rfl .nil) (ent_keep 0 [] rfl rfl) ?_
    exact ⟨by rw [if_pos h]; rfl, rfl⟩
  · refine sd_know 19 (.bool false) rfl (congrArg Value.bool (decide_eq_false h)) ?_
    refine sd_callE rfl rfl rfl rfl (when_f) (Ent.refl _) ?_
    (refine sd_1 rfl (.inl rfl) ?_)
    refine sd_nil ?_
    (refine sn_then ?_; refine sw_ret ?_)
    refine sn_ret rfl (.tmp rfl .nil) (ent_keep 0 [] rfl rfl) ?_
    exact ⟨by rw [if_neg h]; rfl, rfl⟩
end
end Go.Proofs.Ytahimopjohdkjaa
/- Blobs, part five: Put. Conditions: not too many bytes. -/
namespace Go.Proofs.Ytahimopjohdkjaa
open Go.Eng Go.RowKit Go.WideMaps

theorem findK_put {a : List Int} {l : List Kp} (e : Kp) (he : e.id = a) (h : findK a l = none) : putM a (.pointer (some ⟨e.g, 0, none⟩)) (kM l) = kM (l ++ [e]) := by
  induction l with
  | nil => subst he; rfl
  | cons x l ih =>
    simp only [findK] at h
    split at h
    · cases h
    · rename_i hx
      simp only [kM, putM, if_neg hx, List.cons_append, ih h]
theorem kF_app (l : List Kp) (e : Kp) : (kF (l ++ [e])).Perm (kP e ++ kF l) := by
  have : kF (l ++ [e]) = kF l ++ kP e := by
    induction l with
    | nil => simp [kF]
    | cons x l ih => simp only [List.cons_append, kF, ih, List.append_assoc]
  rw [this]; exact List.perm_append_comm
section
variable {b : World} {F : List SP} {gs gm : Nat} {w r u : Int} {l : List Kp} {vb : Value} {id xs : List Int}
def kv : Nat → Int
  | 0 => 0
  | 1 => 1
  | 2 => 2
  | 3 => 3
  | _ => 4
def putE0 (id xs : List Int) (w r u : Int) : Int := if 4096 < xs.length then 4 else if cutR (sumM xs) w = id then (if r < u + xs.length then 10 else 0) else 8
set_option maxHeartbeats 2000000 in
theorem Put_none (hb : ∀ w, Sat b F w → VL (Value.int .u8) w vb xs) (hlen : xs.length ≤ 1000000) (hid : idOk id) (h : findK id l = none) (hu : 0 ≤ u ∧ u ≤ 67108864) :
    SC Try.prog n_p_blob_Store_Put [.pointer (some ⟨gs, 0, none⟩), idV id, vb] b (stB gs gm w r u l F)
      (fun v F' => if putE0 id xs w r u = 0 then v = .tuple ⟨[.bool true, .int .i64 0]⟩ ∧ ∃ g v1, F' = stB gs gm w r (u + xs.length) (l ++ [⟨id, xs, g, v1⟩]) F else v = .tuple ⟨[.bool false, .int .i64 (putE0 id xs w r u)]⟩ ∧ F' = stB gs gm w r u l F) := by
  refine enterS F_p_blob_Store_Put rfl rfl rfl ?_
  refine sw_fact (fun w H => (hb w (H.ent (ent_keep 3 [] rfl rfl))).form) ?_
  rintro ⟨bA, bc, rfl, f1, f2, f3, f4⟩
  (refine sw_seq ?_; refine sw_region ?_)
  refine so_box rfl rfl rfl rfl rfl fun g3 => ?_
  refine so_box rfl rfl rfl rfl rfl fun g4 => ?_
  refine so_box rfl rfl rfl rfl rfl fun g5 => ?_
  ((iterate 2 refine so_1 rfl ?_); refine so_nil ?_; refine sn_then ?_; (iterate 2 refine sw_seq ?_); refine sw_region ?_; refine so_l 2 rfl rfl rfl ?_)
  refine so_callE rfl rfl rfl ((none_S (F := pt g5 t_sl_uint8 [.slice bA xs.length bc] :: pt g4 t_api_ID (u8s id) :: pt g3 t_p_blob_Store [.pointer (some ⟨gs, 0, none⟩)] :: F)).at (ent_keep 6 [3, 4, 5, 0, 1, 2] rfl rfl) (ent_keep 6 [3, 4, 5, 0, 1, 2] rfl rfl)) ?_
  (refine so_nil ?_; refine sn_then ?_; refine sw_cond_f rfl ?_; refine sw_skip ?_; refine sn_then ?_; refine sw_seq ?_)
  refine sw_freeC 11 [8] (fl := flo) [] [(3, .pointer (some ⟨g3, 0, none⟩)), (4, .pointer (some ⟨g4, 0, none⟩)), (5, .pointer (some ⟨g5, 0, none⟩))] ⟨rfl, rfl, rfl, trivial⟩ rfl (by kernel_rfl) (by kernel_rfl) (by decide) ?_
  (refine fc_ld 2 rfl rfl rfl rfl (fun _ => rfl) rfl rfl ?_; (iterate 2 refine fc_p (fun _ => rfl) ?_); refine fc_ld 3 rfl rfl rfl rfl (fun _ => rfl) rfl rfl ?_)
  refine fc_ldA 1 rfl rfl rfl rfl (fun _ => rfl) rfl (segID hid.1) ?_
  refine fc_look0 4 idMK hid (by rw [getM_k, h]; rfl) rfl rfl rfl rfl (fun _ => rfl) (fun _ => rfl) rfl ?_
  ((iterate 3 refine fc_p (fun _ => rfl) ?_); (iterate 2 refine fc_new rfl rfl rfl rfl ?_))
  refine .done rfl fun gg => ⟨ent_nil _, ?_⟩
  skip
  refine sd_st 0 rfl rfl rfl rfl rfl rfl rfl rfl rfl rfl rfl (ent_nil _) ?_
  refine sd_st 1 rfl rfl rfl rfl rfl rfl rfl rfl rfl rfl rfl (ent_nil _) ?_
  refine sd_nil ?_
  (refine sn_then ?_; (iterate 2 refine sw_seq ?_); refine sw_region ?_)
  refine so_sub (E' := [(3, .pointer (some ⟨g3, 0, none⟩)), (4, .pointer (some ⟨g4, 0, none⟩)), (5, .pointer (some ⟨g5, 0, none⟩)), (8, .pointer (some ⟨gg 9, 0, none⟩)), (9, .pointer (some ⟨gg 10, 0, none⟩))]) ⟨rfl, rfl, rfl, rfl, rfl, trivial⟩ ?_
  refine so_ent (ent_keep 2 [1, 0] rfl rfl : Ent _ (putF (gg 10) (gg 9) g5 g4 g3 false (.pointer none) (.slice bA xs.length bc) id gs gm w r u l F)) ?_
  generalize hg8 : gg 9 = g8
  generalize hg9 : gg 10 = g9
  ((iterate 4 refine so_1 rfl ?_))
  refine so_lit [.func (.func n_p_blob_Store_Put_1) ⟨[]⟩ ⟨[.pointer (some ⟨g5, 0, none⟩)]⟩, .func (.func n_p_blob_Store_Put_2) ⟨[]⟩ ⟨[.pointer (some ⟨g5, 0, none⟩), .pointer (some ⟨g3, 0, none⟩), .pointer (some ⟨g4, 0, none⟩)]⟩,
    .func (.func n_p_blob_Store_Put_3) ⟨[]⟩ ⟨[.pointer (some ⟨g9, 0, none⟩), .pointer (some ⟨g8, 0, none⟩), .pointer (some ⟨g5, 0, none⟩)]⟩, .func (.func n_p_blob_Store_Put_4) ⟨[]⟩ ⟨[.pointer (some ⟨g9, 0, none⟩), .pointer (some ⟨g3, 0, none⟩), .pointer (some ⟨g5, 0, none⟩)]⟩] rfl rfl rfl rfl rfl rfl rfl rfl rfl fun gl => ?_
  ((iterate 2 refine so_1 rfl ?_); refine so_nil ?_; refine sn_then ?_; refine sw_block ?_)
  have p1 := put1_S (b := b) (F := F) (A := pt gl t_func_api_Errno [.func (.func n_p_blob_Store_Put_1) ⟨[]⟩ ⟨[.pointer (some ⟨g5, 0, none⟩)]⟩, .func (.func n_p_blob_Store_Put_2) ⟨[]⟩ ⟨[.pointer (some ⟨g5, 0, none⟩), .pointer (some ⟨g3, 0, none⟩), .pointer (some ⟨g4, 0, none⟩)]⟩,
    .func (.func n_p_blob_Store_Put_3) ⟨[]⟩ ⟨[.pointer (some ⟨g9, 0, none⟩), .pointer (some ⟨g8, 0, none⟩), .pointer (some ⟨g5, 0, none⟩)]⟩, .func (.func n_p_blob_Store_Put_4) ⟨[]⟩ ⟨[.pointer (some ⟨g9, 0, none⟩), .pointer (some ⟨g3, 0, none⟩), .pointer (some ⟨g5, 0, none⟩)]⟩])
    (g9 := g9) (g8 := g8) (g5 := g5) (g4 := g4) (g3 := g3) (is := false) (old := .pointer none) (gs := gs) (gm := gm) (w := w) (r := r) (u := u) (l := l) (id := id) hb hlen
  have p2 := put2_S (b := b) (F := F) (A := pt gl t_func_api_Errno [.func (.func n_p_blob_Store_Put_1) ⟨[]⟩ ⟨[.pointer (some ⟨g5, 0, none⟩)]⟩, .func (.func n_p_blob_Store_Put_2) ⟨[]⟩ ⟨[.pointer (some ⟨g5, 0, none⟩), .pointer (some ⟨g3, 0, none⟩), .pointer (some ⟨g4, 0, none⟩)]⟩,
    .func (.func n_p_blob_Store_Put_3) ⟨[]⟩ ⟨[.pointer (some ⟨g9, 0, none⟩), .pointer (some ⟨g8, 0, none⟩), .pointer (some ⟨g5, 0, none⟩)]⟩, .func (.func n_p_blob_Store_Put_4) ⟨[]⟩ ⟨[.pointer (some ⟨g9, 0, none⟩), .pointer (some ⟨g3, 0, none⟩), .pointer (some ⟨g5, 0, none⟩)]⟩])
    (g9 := g9) (g8 := g8) (g5 := g5) (g4 := g4) (g3 := g3) (is := false) (old := .pointer none) (gs := gs) (gm := gm) (w := w) (r := r) (u := u) (l := l) hb hlen hid.1
  have p4 := put4_f (b := b) (F := F) (A := pt gl t_func_api_Errno [.func (.func n_p_blob_Store_Put_1) ⟨[]⟩ ⟨[.pointer (some ⟨g5, 0, none⟩)]⟩, .func (.func n_p_blob_Store_Put_2) ⟨[]⟩ ⟨[.pointer (some ⟨g5, 0, none⟩), .pointer (some ⟨g3, 0, none⟩), .pointer (some ⟨g4, 0, none⟩)]⟩,
    .func (.func n_p_blob_Store_Put_3) ⟨[]⟩ ⟨[.pointer (some ⟨g9, 0, none⟩), .pointer (some ⟨g8, 0, none⟩), .pointer (some ⟨g5, 0, none⟩)]⟩, .func (.func n_p_blob_Store_Put_4) ⟨[]⟩ ⟨[.pointer (some ⟨g9, 0, none⟩), .pointer (some ⟨g3, 0, none⟩), .pointer (some ⟨g5, 0, none⟩)]⟩])
    (g9 := g9) (g8 := g8) (g5 := g5) (g4 := g4) (g3 := g3) (old := .pointer none) (gs := gs) (gm := gm) (w := w) (r := r) (u := u) (l := l) (id := id) hb hlen hu
  generalize hown : cutR (sumM xs) w = own at p2
  have hE : putE0 id xs w r u = if 4096 < xs.length then 4 else if own = id then (if r < u + xs.length then 10 else 0) else 8 := by rw [putE0, hown]
  generalize putE0 id xs w r u = pe at hE ⊢
  refine sw_loop (S := Nat) (fun k => [(3, .pointer (some ⟨g3, 0, none⟩)), (4, .pointer (some ⟨g4, 0, none⟩)), (5, .pointer (some ⟨g5, 0, none⟩)), (8, .pointer (some ⟨g8, 0, none⟩)), (9, .pointer (some ⟨g9, 0, none⟩)), (28, .slice (some ⟨gl, 0, none⟩) 4 4), (29, .int .i64 4), (30, .int .i64 (kv k))]) (fun _ => _)
    (fun k => k ≤ 4 ∧ (1 ≤ k → ¬ 4096 < xs.length) ∧ (2 ≤ k → own = id) ∧ (4 ≤ k → ¬ r < u + xs.length)) (fun k => 4 - k) 0 ⟨rfl, rfl, rfl, rfl, rfl, rfl, rfl, rfl, trivial⟩ (Ent.refl _) ⟨by omega, by omega, by omega, by omega⟩ ?_
  rintro k ⟨hk, i1, i2, i4⟩
  match k, hk with
  | 0, _ =>
    have hk0 : kv 0 = 0 := rfl
    (refine sw_seq ?_; refine sw_region ?_; refine so_1 rfl ?_; refine so_nil ?_; refine sn_then ?_; refine sw_seq ?_; refine sw_cond_t rfl ?_; refine sw_skip ?_; refine sn_then ?_; refine sw_seq ?_; refine sw_block ?_; refine sw_seq ?_; refine sw_region ?_; refine so_2 rfl (by omega) ?_; refine so_l 0 rfl rfl rfl ?_; refine so_1 rfl ?_; refine so_nil ?_; refine sn_then ?_; refine sw_seq ?_; refine sw_region ?_; refine so_1 rfl ?_)
    by_cases h : 4096 < xs.length
    · rw [if_pos h] at p1 hE
      refine so_callE rfl rfl rfl (p1) ?_
      (refine so_1 rfl ?_; refine so_nil ?_; refine sn_then ?_; refine sw_seq ?_; refine sw_region ?_; (iterate 2 refine so_1 rfl ?_); refine so_nil ?_; refine sn_then ?_; refine sw_cond_t rfl ?_; refine sw_seq ?_; refine sw_region ?_; (iterate 3 refine so_1 rfl ?_); refine so_nil ?_; refine sn_then ?_; refine sw_ret ?_; refine sn_block_ret ?_; refine sn_then_ret ?_; refine sn_loop_ret ?_; refine sn_block_ret ?_; refine sn_then_ret ?_)
      refine sn_ret rfl (.tmp rfl (.tmp rfl .nil)) (ent_keep 6 [] rfl rfl) ?_
      rw [hE, if_neg (by decide)]
      exact ⟨rfl, rfl⟩
    · rw [if_neg h] at p1
      refine so_callE rfl rfl rfl (p1) ?_
      (refine so_1 rfl ?_; refine so_nil ?_; refine sn_then ?_; refine sw_seq ?_; refine sw_region ?_; (iterate 2 refine so_1 rfl ?_); refine so_nil ?_; refine sn_then ?_; refine sw_cond_f rfl ?_; refine sw_skip ?_; refine sn_block ?_; refine sn_then ?_; refine sw_region ?_; refine so_2 rfl (by (unfold I64; omega)) ?_; refine so_1 rfl ?_; refine so_nil ?_)
      refine sn_round 1 ⟨rfl, rfl, rfl, rfl, rfl, rfl, rfl, rfl, trivial⟩ (Ent.refl _) ⟨by omega, fun _ => h, by omega, by omega⟩ (by omega)
  | 1, _ =>
    have hk1 : kv 1 = 1 := rfl
    (refine sw_seq ?_; refine sw_region ?_; refine so_1 rfl ?_; refine so_nil ?_; refine sn_then ?_; refine sw_seq ?_; refine sw_cond_t rfl ?_; refine sw_skip ?_; refine sn_then ?_; refine sw_seq ?_; refine sw_block ?_; refine sw_seq ?_; refine sw_region ?_; refine so_2 rfl (by omega) ?_; refine so_l 0 rfl rfl rfl ?_; refine so_1 rfl ?_; refine so_nil ?_; refine sn_then ?_; refine sw_seq ?_; refine sw_region ?_; refine so_1 rfl ?_)
    rw [if_neg (i1 (by omega))] at hE
    by_cases h : own = id
    · rw [if_pos h] at p2
      refine so_callE rfl rfl rfl (p2) ?_
      (refine so_1 rfl ?_; refine so_nil ?_; refine sn_then ?_; refine sw_seq ?_; refine sw_region ?_; (iterate 2 refine so_1 rfl ?_); refine so_nil ?_; refine sn_then ?_; refine sw_cond_f rfl ?_; refine sw_skip ?_; refine sn_block ?_; refine sn_then ?_; refine sw_region ?_; refine so_2 rfl (by (unfold I64; omega)) ?_; refine so_1 rfl ?_; refine so_nil ?_)
      refine sn_round 2 ⟨rfl, rfl, rfl, rfl, rfl, rfl, rfl, rfl, trivial⟩ (Ent.refl _) ⟨by omega, fun _ => i1 (by omega), fun _ => h, by omega⟩ (by omega)
    · rw [if_neg h] at p2 hE
      refine so_callE rfl rfl rfl (p2) ?_
      (refine so_1 rfl ?_; refine so_nil ?_; refine sn_then ?_; refine sw_seq ?_; refine sw_region ?_; (iterate 2 refine so_1 rfl ?_); refine so_nil ?_; refine sn_then ?_; refine sw_cond_t rfl ?_; refine sw_seq ?_; refine sw_region ?_; (iterate 3 refine so_1 rfl ?_); refine so_nil ?_; refine sn_then ?_; refine sw_ret ?_; refine sn_block_ret ?_; refine sn_then_ret ?_; refine sn_loop_ret ?_; refine sn_block_ret ?_; refine sn_then_ret ?_)
      refine sn_ret rfl (.tmp rfl (.tmp rfl .nil)) (ent_keep 6 [] rfl rfl) ?_
      rw [hE, if_neg (by decide)]
      exact ⟨rfl, rfl⟩
  | 2, _ =>
    have hk2 : kv 2 = 2 := rfl
    (refine sw_seq ?_; refine sw_region ?_; refine so_1 rfl ?_; refine so_nil ?_; refine sn_then ?_; refine sw_seq ?_; refine sw_cond_t rfl ?_; refine sw_skip ?_; refine sn_then ?_; refine sw_seq ?_; refine sw_block ?_; refine sw_seq ?_; refine sw_region ?_; refine so_2 rfl (by omega) ?_; refine so_l 0 rfl rfl rfl ?_; refine so_1 rfl ?_; refine so_nil ?_; refine sn_then ?_; refine sw_seq ?_; refine sw_region ?_; refine so_1 rfl ?_)
    refine so_callE rfl rfl rfl (put3_f) ?_
    (refine so_1 rfl ?_; refine so_nil ?_; refine sn_then ?_; refine sw_seq ?_; refine sw_region ?_; (iterate 2 refine so_1 rfl ?_); refine so_nil ?_; refine sn_then ?_; refine sw_cond_f rfl ?_; refine sw_skip ?_; refine sn_block ?_; refine sn_then ?_; refine sw_region ?_; refine so_2 rfl (by (unfold I64; omega)) ?_; refine so_1 rfl ?_; refine so_nil ?_)
    refine sn_round 3 ⟨rfl, rfl, rfl, rfl, rfl, rfl, rfl, rfl, trivial⟩ (Ent.refl _) ⟨by omega, fun _ => i1 (by omega), fun _ => i2 (by omega), by omega⟩ (by omega)
  | 3, _ =>
    have hk3 : kv 3 = 3 := rfl
    (refine sw_seq ?_; refine sw_region ?_; refine so_1 rfl ?_; refine so_nil ?_; refine sn_then ?_; refine sw_seq ?_; refine sw_cond_t rfl ?_; refine sw_skip ?_; refine sn_then ?_; refine sw_seq ?_; refine sw_block ?_; refine sw_seq ?_; refine sw_region ?_; refine so_2 rfl (by omega) ?_; refine so_l 0 rfl rfl rfl ?_; refine so_1 rfl ?_; refine so_nil ?_; refine sn_then ?_; refine sw_seq ?_; refine sw_region ?_; refine so_1 rfl ?_)
    rw [if_neg (i1 (by omega)), if_pos (i2 (by omega))] at hE
    by_cases h : r < u + xs.length
    · rw [if_pos h] at p4 hE
      refine so_callE rfl rfl rfl (p4) ?_
      (refine so_1 rfl ?_; refine so_nil ?_; refine sn_then ?_; refine sw_seq ?_; refine sw_region ?_; (iterate 2 refine so_1 rfl ?_); refine so_nil ?_; refine sn_then ?_; refine sw_cond_t rfl ?_; refine sw_seq ?_; refine sw_region ?_; (iterate 3 refine so_1 rfl ?_); refine so_nil ?_; refine sn_then ?_; refine sw_ret ?_; refine sn_block_ret ?_; refine sn_then_ret ?_; refine sn_loop_ret ?_; refine sn_block_ret ?_; refine sn_then_ret ?_)
      refine sn_ret rfl (.tmp rfl (.tmp rfl .nil)) (ent_keep 6 [] rfl rfl) ?_
      rw [hE, if_neg (by decide)]
      exact ⟨rfl, rfl⟩
    · rw [if_neg h] at p4
      refine so_callE rfl rfl rfl (p4) ?_
      (refine so_1 rfl ?_; refine so_nil ?_; refine sn_then ?_; refine sw_seq ?_; refine sw_region ?_; (iterate 2 refine so_1 rfl ?_); refine so_nil ?_; refine sn_then ?_; refine sw_cond_f rfl ?_; refine sw_skip ?_; refine sn_block ?_; refine sn_then ?_; refine sw_region ?_; refine so_2 rfl (by (unfold I64; omega)) ?_; refine so_1 rfl ?_; refine so_nil ?_)
      refine sn_round 4 ⟨rfl, rfl, rfl, rfl, rfl, rfl, rfl, rfl, trivial⟩ (Ent.refl _) ⟨by omega, fun _ => i1 (by omega), fun _ => i2 (by omega), fun _ => h⟩ (by omega)
  | 4, _ =>
    rw [if_neg (i1 (by omega)), if_pos (i2 (by omega)), if_neg (i4 (by omega))] at hE
    clear p1 p2 p4
    have hk4 : kv 4 = 4 := rfl
    (refine sw_seq ?_; refine sw_region ?_; refine so_1 rfl ?_; refine so_nil ?_; refine sn_then ?_; refine sw_seq ?_; refine sw_cond_f rfl ?_; refine sw_exit ?_; refine sn_then_exit ?_; refine sn_loop_exit ?_; refine sn_block_exit ?_; refine sn_then ?_; (iterate 2 refine sw_seq ?_); refine sw_region ?_; refine so_l 1 rfl rfl rfl ?_; refine so_nil ?_; refine sn_then ?_; refine sw_cond_f rfl ?_; refine sw_skip ?_; refine sn_then ?_; refine sw_seq ?_)
    refine sw_draw flo (pt g5 t_sl_uint8 [.slice bA xs.length bc] :: pt g4 t_api_ID (u8s id) :: pt g3 t_p_blob_Store [.pointer (some ⟨gs, 0, none⟩)] :: pt gs t_blob_Store (stC w r u gm) :: F) (by decide +kernel) (ent_keep 9 [3, 4, 5, 6] rfl rfl) ?_
    (refine sd_l 2 rfl rfl rfl rfl ?_; (iterate 2 refine sd_1 rfl (.inl rfl) ?_); refine sd_l 3 rfl rfl rfl rfl ?_)
    refine sd_ldA 1 rfl rfl rfl rfl rfl rfl (segID hid.1) rfl rfl ?_
    (refine sd_l 0 rfl rfl rfl rfl ?_)
    refine sd_call rfl rfl rfl rfl (SC.ofMade fun w H => Clone_spec (hb w (H.ent (ent_keep 9 [] rfl rfl))) (by omega)) fun v1 F1 hF1 => ?_
    subst hF1
    refine ⟨ent_keep 10 [4, 5, 6, 7] rfl rfl, ?_⟩
    refine sd_fact (fun w H => (H.oat (k := 0) rfl).form) ?_
    rintro ⟨A7, c7, rfl, _, _, _⟩
    (refine sd_1 rfl (.inl rfl) ?_)
    refine sd_box rfl rfl rfl rfl rfl rfl (ent_keep 10 [4, 5, 6, 7] rfl rfl) fun gk => ?_
    refine sd_put 9 idMK hid rfl rfl rfl rfl rfl rfl rfl rfl rfl (ent_keep 11 [5, 6, 7, 8] rfl rfl) ?_
    refine sd_nil ?_
    rw [findK_put ⟨id, xs, gk, .slice A7 xs.length c7⟩ rfl h]
    (refine sn_then ?_; refine sw_seq ?_)
    refine sw_draw2 flo 9 (pt g5 t_sl_uint8 [.slice bA xs.length bc] :: pt g3 t_p_blob_Store [.pointer (some ⟨gs, 0, none⟩)] :: pt gs t_blob_Store (stC w r u gm) :: F) [] rfl (by decide +kernel) (ent_keep 11 [5, 7, 8] rfl rfl) ?_
    (refine sd_l 1 rfl rfl rfl rfl ?_; (iterate 2 refine sd_1 rfl (.inl rfl) ?_); refine sd_l 2 rfl rfl rfl rfl ?_; refine sd_l 0 rfl rfl rfl rfl ?_; refine sd_1 rfl (.inl rfl) ?_; refine sd_2 rfl rfl (by (unfold I64; omega)) ?_; (iterate 2 refine sd_1 rfl (.inl rfl) ?_))
    refine sd_nil (sn_draw2 rfl (ent_nil _) ?_)
    refine sd_st 8 rfl rfl rfl rfl rfl rfl rfl rfl rfl rfl rfl (ent_nil _) ?_
    refine sd_nil ?_
    (refine sn_then ?_; refine sw_seq ?_; refine sw_region ?_; (iterate 2 refine so_1 rfl ?_); refine so_nil ?_; refine sn_then ?_; refine sw_ret ?_)
    refine sn_ret rfl (.tmp rfl (.tmp rfl .nil)) (((ent_rB (l := xs) 1 rfl rfl rfl rfl).trans (ent_keep 11 [0, 1, 10, 8, 9] rfl rfl)).trans ((ent_in (kF_app l ⟨id, xs, gk, .slice A7 xs.length c7⟩)).trans (ent_keep 3 [1, 2, 0] rfl rfl))) ?_
    rw [if_pos hE]
    exact ⟨rfl, gk, .slice A7 xs.length c7, rfl⟩
end
end Go.Proofs.Ytahimopjohdkjaa
/- Blobs, part six: Put, where something is kept. Conditions: not too many bytes. -/
namespace Go.Proofs.Ytahimopjohdkjaa
open Go.Eng Go.RowKit Go.WideMaps

section
variable {b : World} {F : List SP} {gs gm : Nat} {w r u : Int} {l : List Kp} {vb : Value} {id xs : List Int}
def putE1 (id xs : List Int) (e : Kp) (w : Int) : Int := if 4096 < xs.length then 4 else if cutR (sumM xs) w = id then (if e.b = xs then 0 else 9) else 8
set_option maxHeartbeats 2000000 in
theorem Put_some {e : Kp} (hb : ∀ w, Sat b F w → VL (Value.int .u8) w vb xs) (hlen : xs.length ≤ 1000000) (hid : idOk id) (h : findK id l = some e) (hw : byteW xs) (hew : byteW e.b) :
    SC Try.prog n_p_blob_Store_Put [.pointer (some ⟨gs, 0, none⟩), idV id, vb] b (stB gs gm w r u l F) (fun v F' => v = .tuple ⟨[.bool false, .int .i64 (putE1 id xs e w)]⟩ ∧ F' = stB gs gm w r u l F) := by
  refine enterS F_p_blob_Store_Put rfl rfl rfl ?_
  refine sw_fact (fun w H => (hb w (H.ent (ent_keep 3 [] rfl rfl))).form) ?_
  rintro ⟨bA, bc, rfl, f1, f2, f3, f4⟩
  (refine sw_seq ?_; refine sw_region ?_)
  refine so_box rfl rfl rfl rfl rfl fun g3 => ?_
  refine so_box rfl rfl rfl rfl rfl fun g4 => ?_
  refine so_box rfl rfl rfl rfl rfl fun g5 => ?_
  ((iterate 2 refine so_1 rfl ?_); refine so_nil ?_; refine sn_then ?_; (iterate 2 refine sw_seq ?_); refine sw_region ?_; refine so_l 2 rfl rfl rfl ?_)
  refine so_callE rfl rfl rfl ((none_S (F := pt g5 t_sl_uint8 [.slice bA xs.length bc] :: pt g4 t_api_ID (u8s id) :: pt g3 t_p_blob_Store [.pointer (some ⟨gs, 0, none⟩)] :: F)).at (ent_keep 6 [3, 4, 5, 0, 1, 2] rfl rfl) (ent_keep 6 [3, 4, 5, 0, 1, 2] rfl rfl)) ?_
  (refine so_nil ?_; refine sn_then ?_; refine sw_cond_f rfl ?_; refine sw_skip ?_; refine sn_then ?_; refine sw_seq ?_)
  refine sw_freeC 11 [8] (fl := flo) [] [(3, .pointer (some ⟨g3, 0, none⟩)), (4, .pointer (some ⟨g4, 0, none⟩)), (5, .pointer (some ⟨g5, 0, none⟩))] ⟨rfl, rfl, rfl, trivial⟩ rfl (by kernel_rfl) (by kernel_rfl) (by decide) ?_
  (refine fc_ld 2 rfl rfl rfl rfl (fun _ => rfl) rfl rfl ?_; (iterate 2 refine fc_p (fun _ => rfl) ?_); refine fc_ld 3 rfl rfl rfl rfl (fun _ => rfl) rfl rfl ?_)
  refine fc_ldA 1 rfl rfl rfl rfl (fun _ => rfl) rfl (segID hid.1) ?_
  refine fc_look1 4 idMK hid (by rw [getM_k, h]; rfl) rfl rfl rfl rfl (fun _ => rfl) (fun _ => rfl) rfl ?_
  ((iterate 3 refine fc_p (fun _ => rfl) ?_); (iterate 2 refine fc_new rfl rfl rfl rfl ?_))
  refine .done rfl fun gg => ⟨ent_nil _, ?_⟩
  skip
  refine sd_st 0 rfl rfl rfl rfl rfl rfl rfl rfl rfl rfl rfl (ent_nil _) ?_
  refine sd_st 1 rfl rfl rfl rfl rfl rfl rfl rfl rfl rfl rfl (ent_nil _) ?_
  refine sd_nil ?_
  (refine sn_then ?_; (iterate 2 refine sw_seq ?_); refine sw_region ?_)
  refine so_sub (E' := [(3, .pointer (some ⟨g3, 0, none⟩)), (4, .pointer (some ⟨g4, 0, none⟩)), (5, .pointer (some ⟨g5, 0, none⟩)), (8, .pointer (some ⟨gg 9, 0, none⟩)), (9, .pointer (some ⟨gg 10, 0, none⟩))]) ⟨rfl, rfl, rfl, rfl, rfl, trivial⟩ ?_
  refine so_ent (ent_keep 2 [1, 0] rfl rfl : Ent _ (putF (gg 10) (gg 9) g5 g4 g3 true (.pointer (some ⟨e.g, 0, none⟩)) (.slice bA xs.length bc) id gs gm w r u l F)) ?_
  generalize hg8 : gg 9 = g8
  generalize hg9 : gg 10 = g9
  ((iterate 4 refine so_1 rfl ?_))
  refine so_lit [.func (.func n_p_blob_Store_Put_1) ⟨[]⟩ ⟨[.pointer (some ⟨g5, 0, none⟩)]⟩, .func (.func n_p_blob_Store_Put_2) ⟨[]⟩ ⟨[.pointer (some ⟨g5, 0, none⟩), .pointer (some ⟨g3, 0, none⟩), .pointer (some ⟨g4, 0, none⟩)]⟩,
    .func (.func n_p_blob_Store_Put_3) ⟨[]⟩ ⟨[.pointer (some ⟨g9, 0, none⟩), .pointer (some ⟨g8, 0, none⟩), .pointer (some ⟨g5, 0, none⟩)]⟩, .func (.func n_p_blob_Store_Put_4) ⟨[]⟩ ⟨[.pointer (some ⟨g9, 0, none⟩), .pointer (some ⟨g3, 0, none⟩), .pointer (some ⟨g5, 0, none⟩)]⟩] rfl rfl rfl rfl rfl rfl rfl rfl rfl fun gl => ?_
  ((iterate 2 refine so_1 rfl ?_); refine so_nil ?_; refine sn_then ?_; refine sw_block ?_)
  have p1 := put1_S (b := b) (F := F) (A := pt gl t_func_api_Errno [.func (.func n_p_blob_Store_Put_1) ⟨[]⟩ ⟨[.pointer (some ⟨g5, 0, none⟩)]⟩, .func (.func n_p_blob_Store_Put_2) ⟨[]⟩ ⟨[.pointer (some ⟨g5, 0, none⟩), .pointer (some ⟨g3, 0, none⟩), .pointer (some ⟨g4, 0, none⟩)]⟩,
    .func (.func n_p_blob_Store_Put_3) ⟨[]⟩ ⟨[.pointer (some ⟨g9, 0, none⟩), .pointer (some ⟨g8, 0, none⟩), .pointer (some ⟨g5, 0, none⟩)]⟩, .func (.func n_p_blob_Store_Put_4) ⟨[]⟩ ⟨[.pointer (some ⟨g9, 0, none⟩), .pointer (some ⟨g3, 0, none⟩), .pointer (some ⟨g5, 0, none⟩)]⟩])
    (g9 := g9) (g8 := g8) (g5 := g5) (g4 := g4) (g3 := g3) (is := true) (old := .pointer (some ⟨e.g, 0, none⟩)) (gs := gs) (gm := gm) (w := w) (r := r) (u := u) (l := l) (id := id) hb hlen
  have p2 := put2_S (b := b) (F := F) (A := pt gl t_func_api_Errno [.func (.func n_p_blob_Store_Put_1) ⟨[]⟩ ⟨[.pointer (some ⟨g5, 0, none⟩)]⟩, .func (.func n_p_blob_Store_Put_2) ⟨[]⟩ ⟨[.pointer (some ⟨g5, 0, none⟩), .pointer (some ⟨g3, 0, none⟩), .pointer (some ⟨g4, 0, none⟩)]⟩,
    .func (.func n_p_blob_Store_Put_3) ⟨[]⟩ ⟨[.pointer (some ⟨g9, 0, none⟩), .pointer (some ⟨g8, 0, none⟩), .pointer (some ⟨g5, 0, none⟩)]⟩, .func (.func n_p_blob_Store_Put_4) ⟨[]⟩ ⟨[.pointer (some ⟨g9, 0, none⟩), .pointer (some ⟨g3, 0, none⟩), .pointer (some ⟨g5, 0, none⟩)]⟩])
    (g9 := g9) (g8 := g8) (g5 := g5) (g4 := g4) (g3 := g3) (is := true) (old := .pointer (some ⟨e.g, 0, none⟩)) (gs := gs) (gm := gm) (w := w) (r := r) (u := u) (l := l) hb hlen hid.1
  have p3 := put3_t (b := b) (F := F) (A := pt gl t_func_api_Errno [.func (.func n_p_blob_Store_Put_1) ⟨[]⟩ ⟨[.pointer (some ⟨g5, 0, none⟩)]⟩, .func (.func n_p_blob_Store_Put_2) ⟨[]⟩ ⟨[.pointer (some ⟨g5, 0, none⟩), .pointer (some ⟨g3, 0, none⟩), .pointer (some ⟨g4, 0, none⟩)]⟩,
    .func (.func n_p_blob_Store_Put_3) ⟨[]⟩ ⟨[.pointer (some ⟨g9, 0, none⟩), .pointer (some ⟨g8, 0, none⟩), .pointer (some ⟨g5, 0, none⟩)]⟩, .func (.func n_p_blob_Store_Put_4) ⟨[]⟩ ⟨[.pointer (some ⟨g9, 0, none⟩), .pointer (some ⟨g3, 0, none⟩), .pointer (some ⟨g5, 0, none⟩)]⟩])
    (g9 := g9) (g8 := g8) (g5 := g5) (g4 := g4) (g3 := g3) (gs := gs) (gm := gm) (w := w) (r := r) (u := u) (l := l) (id := id) hb hlen hw h hew
  generalize hown : cutR (sumM xs) w = own at p2
  have hE : putE1 id xs e w = if 4096 < xs.length then 4 else if own = id then (if e.b = xs then 0 else 9) else 8 := by rw [putE1, hown]
  generalize putE1 id xs e w = pe at hE ⊢
  refine sw_loop (S := Nat) (fun k => [(3, .pointer (some ⟨g3, 0, none⟩)), (4, .pointer (some ⟨g4, 0, none⟩)), (5, .pointer (some ⟨g5, 0, none⟩)), (8, .pointer (some ⟨g8, 0, none⟩)), (9, .pointer (some ⟨g9, 0, none⟩)), (28, .slice (some ⟨gl, 0, none⟩) 4 4), (29, .int .i64 4), (30, .int .i64 (kv k))]) (fun _ => _)
    (fun k => k ≤ 4 ∧ (1 ≤ k → ¬ 4096 < xs.length) ∧ (2 ≤ k → own = id) ∧ (3 ≤ k → e.b = xs)) (fun k => 4 - k) 0 ⟨rfl, rfl, rfl, rfl, rfl, rfl, rfl, rfl, trivial⟩ (Ent.refl _) ⟨by omega, by omega, by omega, by omega⟩ ?_
  rintro k ⟨hk, i1, i2, i3⟩
  match k, hk with
  | 0, _ =>
    have hk0 : kv 0 = 0 := rfl
    (refine sw_seq ?_; refine sw_region ?_; refine so_1 rfl ?_; refine so_nil ?_; refine sn_then ?_; refine sw_seq ?_; refine sw_cond_t rfl ?_; refine sw_skip ?_; refine sn_then ?_; refine sw_seq ?_; refine sw_block ?_; refine sw_seq ?_; refine sw_region ?_; refine so_2 rfl (by omega) ?_; refine so_l 0 rfl rfl rfl ?_; refine so_1 rfl ?_; refine so_nil ?_; refine sn_then ?_; refine sw_seq ?_; refine sw_region ?_; refine so_1 rfl ?_)
    by_cases h : 4096 < xs.length
    · rw [if_pos h] at p1 hE
      refine so_callE rfl rfl rfl (p1) ?_
      (refine so_1 rfl ?_; refine so_nil ?_; refine sn_then ?_; refine sw_seq ?_; refine sw_region ?_; (iterate 2 refine so_1 rfl ?_); refine so_nil ?_; refine sn_then ?_; refine sw_cond_t rfl ?_; refine sw_seq ?_; refine sw_region ?_; (iterate 3 refine so_1 rfl ?_); refine so_nil ?_; refine sn_then ?_; refine sw_ret ?_; refine sn_block_ret ?_; refine sn_then_ret ?_; refine sn_loop_ret ?_; refine sn_block_ret ?_; refine sn_then_ret ?_)
      refine sn_ret rfl (.tmp rfl (.tmp rfl .nil)) (ent_keep 6 [] rfl rfl) ?_
      rw [hE]
      exact ⟨rfl, rfl⟩
    · rw [if_neg h] at p1
      refine so_callE rfl rfl rfl (p1) ?_
      (refine so_1 rfl ?_; refine so_nil ?_; refine sn_then ?_; refine sw_seq ?_; refine sw_region ?_; (iterate 2 refine so_1 rfl ?_); refine so_nil ?_; refine sn_then ?_; refine sw_cond_f rfl ?_; refine sw_skip ?_; refine sn_block ?_; refine sn_then ?_; refine sw_region ?_; refine so_2 rfl (by (unfold I64; omega)) ?_; refine so_1 rfl ?_; refine so_nil ?_)
      refine sn_round 1 ⟨rfl, rfl, rfl, rfl, rfl, rfl, rfl, rfl, trivial⟩ (Ent.refl _) ⟨by omega, fun _ => h, by omega, by omega⟩ (by omega)
  | 1, _ =>
    have hk1 : kv 1 = 1 := rfl
    (refine sw_seq ?_; refine sw_region ?_; refine so_1 rfl ?_; refine so_nil ?_; refine sn_then ?_; refine sw_seq ?_; refine sw_cond_t rfl ?_; refine sw_skip ?_; refine sn_then ?_; refine sw_seq ?_; refine sw_block ?_; refine sw_seq ?_; refine sw_region ?_; refine so_2 rfl (by omega) ?_; refine so_l 0 rfl rfl rfl ?_; refine so_1 rfl ?_; refine so_nil ?_; refine sn_then ?_; refine sw_seq ?_; refine sw_region ?_; refine so_1 rfl ?_)
    rw [if_neg (i1 (by omega))] at hE
    by_cases h : own = id
    · rw [if_pos h] at p2
      refine so_callE rfl rfl rfl (p2) ?_
      (refine so_1 rfl ?_; refine so_nil ?_; refine sn_then ?_; refine sw_seq ?_; refine sw_region ?_; (iterate 2 refine so_1 rfl ?_); refine so_nil ?_; refine sn_then ?_; refine sw_cond_f rfl ?_; refine sw_skip ?_; refine sn_block ?_; refine sn_then ?_; refine sw_region ?_; refine so_2 rfl (by (unfold I64; omega)) ?_; refine so_1 rfl ?_; refine so_nil ?_)
      refine sn_round 2 ⟨rfl, rfl, rfl, rfl, rfl, rfl, rfl, rfl, trivial⟩ (Ent.refl _) ⟨by omega, fun _ => i1 (by omega), fun _ => h, by omega⟩ (by omega)
    · rw [if_neg h] at p2 hE
      refine so_callE rfl rfl rfl (p2) ?_
      (refine so_1 rfl ?_; refine so_nil ?_; refine sn_then ?_; refine sw_seq ?_; refine sw_region ?_; (iterate 2 refine so_1 rfl ?_); refine so_nil ?_; refine sn_then ?_; refine sw_cond_t rfl ?_; refine sw_seq ?_; refine sw_region ?_; (iterate 3 refine so_1 rfl ?_); refine so_nil ?_; refine sn_then ?_; refine sw_ret ?_; refine sn_block_ret ?_; refine sn_then_ret ?_; refine sn_loop_ret ?_; refine sn_block_ret ?_; refine sn_then_ret ?_)
      refine sn_ret rfl (.tmp rfl (.tmp rfl .nil)) (ent_keep 6 [] rfl rfl) ?_
      rw [hE]
      exact ⟨rfl, rfl⟩
  | 2, _ =>
    have hk2 : kv 2 = 2 := rfl
    (refine sw_seq ?_; refine sw_region ?_; refine so_1 rfl ?_; refine so_nil ?_; refine sn_then ?_; refine sw_seq ?_; refine sw_cond_t rfl ?_; refine sw_skip ?_; refine sn_then ?_; refine sw_seq ?_; refine sw_block ?_; refine sw_seq ?_; refine sw_region ?_; refine so_2 rfl (by omega) ?_; refine so_l 0 rfl rfl rfl ?_; refine so_1 rfl ?_; refine so_nil ?_; refine sn_then ?_; refine sw_seq ?_; refine sw_region ?_; refine so_1 rfl ?_)
    rw [if_neg (i1 (by omega)), if_pos (i2 (by omega))] at hE
    by_cases h : e.b = xs
    · rw [if_pos h] at p3
      refine so_callE rfl rfl rfl (p3) ?_
      (refine so_1 rfl ?_; refine so_nil ?_; refine sn_then ?_; refine sw_seq ?_; refine sw_region ?_; (iterate 2 refine so_1 rfl ?_); refine so_nil ?_; refine sn_then ?_; refine sw_cond_f rfl ?_; refine sw_skip ?_; refine sn_block ?_; refine sn_then ?_; refine sw_region ?_; refine so_2 rfl (by (unfold I64; omega)) ?_; refine so_1 rfl ?_; refine so_nil ?_)
      refine sn_round 3 ⟨rfl, rfl, rfl, rfl, rfl, rfl, rfl, rfl, trivial⟩ (Ent.refl _) ⟨by omega, fun _ => i1 (by omega), fun _ => i2 (by omega), fun _ => h⟩ (by omega)
    · rw [if_neg h] at p3 hE
      refine so_callE rfl rfl rfl (p3) ?_
      (refine so_1 rfl ?_; refine so_nil ?_; refine sn_then ?_; refine sw_seq ?_; refine sw_region ?_; (iterate 2 refine so_1 rfl ?_); refine so_nil ?_; refine sn_then ?_; refine sw_cond_t rfl ?_; refine sw_seq ?_; refine sw_region ?_; (iterate 3 refine so_1 rfl ?_); refine so_nil ?_; refine sn_then ?_; refine sw_ret ?_; refine sn_block_ret ?_; refine sn_then_ret ?_; refine sn_loop_ret ?_; refine sn_block_ret ?_; refine sn_then_ret ?_)
      refine sn_ret rfl (.tmp rfl (.tmp rfl .nil)) (ent_keep 6 [] rfl rfl) ?_
      rw [hE]
      exact ⟨rfl, rfl⟩
  | 3, _ =>
    have hk3 : kv 3 = 3 := rfl
    (refine sw_seq ?_; refine sw_region ?_; refine so_1 rfl ?_; refine so_nil ?_; refine sn_then ?_; refine sw_seq ?_; refine sw_cond_t rfl ?_; refine sw_skip ?_; refine sn_then ?_; refine sw_seq ?_; refine sw_block ?_; refine sw_seq ?_; refine sw_region ?_; refine so_2 rfl (by omega) ?_; refine so_l 0 rfl rfl rfl ?_; refine so_1 rfl ?_; refine so_nil ?_; refine sn_then ?_; refine sw_seq ?_; refine sw_region ?_; refine so_1 rfl ?_)
    refine so_callE rfl rfl rfl (put4_t) ?_
    (refine so_1 rfl ?_; refine so_nil ?_; refine sn_then ?_; refine sw_seq ?_; refine sw_region ?_; (iterate 2 refine so_1 rfl ?_); refine so_nil ?_; refine sn_then ?_; refine sw_cond_f rfl ?_; refine sw_skip ?_; refine sn_block ?_; refine sn_then ?_; refine sw_region ?_; refine so_2 rfl (by (unfold I64; omega)) ?_; refine so_1 rfl ?_; refine so_nil ?_)
    refine sn_round 4 ⟨rfl, rfl, rfl, rfl, rfl, rfl, rfl, rfl, trivial⟩ (Ent.refl _) ⟨by omega, fun _ => i1 (by omega), fun _ => i2 (by omega), fun _ => i3 (by omega)⟩ (by omega)
  | 4, _ =>
    rw [if_neg (i1 (by omega)), if_pos (i2 (by omega)), if_pos (i3 (by omega))] at hE
    clear p1 p2 p3
    have hk4 : kv 4 = 4 := rfl
    (refine sw_seq ?_; refine sw_region ?_; refine so_1 rfl ?_; refine so_nil ?_; refine sn_then ?_; refine sw_seq ?_; refine sw_cond_f rfl ?_; refine sw_exit ?_; refine sn_then_exit ?_; refine sn_loop_exit ?_; refine sn_block_exit ?_; refine sn_then ?_; (iterate 2 refine sw_seq ?_); refine sw_region ?_; refine so_l 1 rfl rfl rfl ?_; refine so_nil ?_; refine sn_then ?_; refine sw_cond_t rfl ?_; refine sw_seq ?_; refine sw_region ?_; (iterate 2 refine so_1 rfl ?_); refine so_nil ?_; refine sn_then ?_; refine sw_ret ?_; refine sn_then_ret ?_)
    refine sn_ret rfl (.tmp rfl (.tmp rfl .nil)) (ent_keep 6 [] rfl rfl) ?_
    rw [hE]
    exact ⟨rfl, rfl⟩
end
end Go.Proofs.Ytahimopjohdkjaa
/- Blobs, part seven: the heap's methods. Conditions: not too many. -/
namespace Go.Proofs.Ytahimopjohdkjaa
open Go.Eng Go.RowKit Go.WideMaps

def idsC : List (List Int) → List Value
  | [] => []
  | a :: l => u8s a ++ idsC l
def len32 (l : List (List Int)) : Prop := ∀ a ∈ l, a.length = 32
theorem idsC_len {l : List (List Int)} (h : len32 l) : (idsC l).length = l.length * 32 := by
  induction l with
  | nil => rfl
  | cons a l ih => simp only [idsC, List.length_append, u8s_len, h a (by simp), ih (fun x hx => h x (by simp [hx])), List.length_cons]; omega
theorem idsC_seg {l : List (List Int)} (h : len32 l) {i : Nat} (hi : i < l.length) : ((idsC l).drop (i * 32)).take 32 = u8s (l.getD i []) := by
  induction l generalizing i with
  | nil => simp at hi
  | cons a l ih =>
    have ha := h a (by simp)
    have hl : len32 l := fun x hx => h x (by simp [hx])
    cases i with
    | zero =>
      simp only [idsC, Nat.zero_mul, List.drop_zero, List.getD_cons_zero]
      rw [List.take_append_of_le_length (by rw [u8s_len, ha]; omega), List.take_of_length_le (by rw [u8s_len, ha]; omega)]
    | succ i =>
      simp only [idsC, List.getD_cons_succ]
      rw [show (i + 1) * 32 = (u8s a).length + i * 32 by rw [u8s_len, ha]; omega, List.drop_append, List.drop_of_length_le (by omega), List.nil_append]
      rw [show (u8s a).length + i * 32 - (u8s a).length = i * 32 by omega]
      exact ih hl (by simpa using hi)
abbrev rI (A : Option Addr) (c : Nat) (l : List (List Int)) : SP := row t_api_ID 32 (.slice A l.length c) l.length (idsC l)
section
variable {b : World} {F : List SP} {A : Option Addr} {c : Nat} {l : List (List Int)}
theorem dLen_S : SC Try.prog n_blob_digests_Len [.slice A l.length c] b F (fun v F' => v = .int .i64 l.length ∧ F' = F) := by
  refine enterS F_blob_digests_Len rfl rfl rfl ?_
  (refine sw_seq ?_; refine sw_region ?_; refine so_1 rfl ?_; refine so_nil ?_; refine sn_then ?_; refine sw_seq ?_; refine sw_region ?_; (iterate 3 refine so_1 rfl ?_); refine so_nil ?_; refine sn_then ?_; refine sw_ret ?_)
  refine sn_ret rfl (.tmp rfl .nil) (ent_keep 0 [] rfl rfl) ?_
  exact ⟨rfl, rfl⟩
theorem dLess_S {i j : Nat} (hl : len32 l) (hi : i < l.length) (hj : j < l.length) :
    SC Try.prog n_blob_digests_Less [.slice A l.length c, .int .i64 i, .int .i64 j] b (rI A c l :: F) (fun v F' => v = .bool (decide (cmpM (l.getD i []) (l.getD j []) < 0)) ∧ F' = rI A c l :: F) := by
  have hxi : (l.getD i []).length = 32 := by rw [List.getD_eq_getElem?_getD, List.getElem?_eq_getElem hi]; exact hl _ (List.getElem_mem hi)
  have hxj : (l.getD j []).length = 32 := by rw [List.getD_eq_getElem?_getD, List.getElem?_eq_getElem hj]; exact hl _ (List.getElem_mem hj)
  have si := idsC_seg hl hi
  have sj := idsC_seg hl hj
  generalize l.getD i [] = x at *
  generalize l.getD j [] = y at *
  refine enterS F_blob_digests_Less rfl rfl rfl ?_
  refine sw_fact (fun w H => (H.oat (k := 0) rfl).form) ?_
  rintro ⟨A', c', hv, k1, k2, k3⟩
  cases hv
  obtain ⟨gg, oo, rfl⟩ := k3 (by omega)
  (refine sw_seq ?_; refine sw_region ?_; refine so_1 rfl ?_; refine so_nil ?_; refine sn_then ?_; refine sw_seq ?_)
  refine sw_draw flo (rI (some ⟨gg, oo, none⟩) c l :: F) (by decide +kernel) (Ent.refl _) ?_
  ((iterate 2 refine sd_1 rfl (.inl rfl) ?_); refine sd_2 rfl rfl (by omega) ?_)
  refine sd_ldrow 0 (i * 32) rfl rfl rfl rfl rfl rfl rfl rfl (by rw [mulz_eq, Int.toNat_natCast]) (by omega) si (by rw [u8s_len, hxi]; rfl) ?_
  ((iterate 2 refine sd_1 rfl (.inl rfl) ?_); refine sd_2 rfl rfl (by omega) ?_)
  refine sd_ldrow 0 (j * 32) rfl rfl rfl rfl rfl rfl rfl rfl (by rw [mulz_eq, Int.toNat_natCast]) (by omega) sj (by rw [u8s_len, hxj]; rfl) ?_
  skip
  refine sd_callE rfl rfl rfl rfl (Compare_S hxi hxj) (Ent.refl _) ?_
  ((iterate 2 refine sd_1 rfl (.inl rfl) ?_))
  refine sd_nil ?_
  (refine sn_then ?_; refine sw_ret ?_)
  refine sn_ret rfl (.tmp rfl .nil) (ent_keep 0 [] rfl rfl) ?_
  exact ⟨rfl, rfl⟩
theorem idsC_set {l : List (List Int)} (h : len32 l) {i : Nat} {x : List Int} (hx : x.length = 32) (hi : i < l.length) : spl (idsC l) (i * 32) (u8s x) = idsC (l.set i x) := by
  induction l generalizing i with
  | nil => simp at hi
  | cons a l ih =>
    have ha := h a (by simp)
    have hl : len32 l := fun x hx => h x (by simp [hx])
    cases i with
    | zero =>
      simp only [idsC, spl, Nat.zero_mul, List.take_zero, List.nil_append, Nat.zero_add, List.set_cons_zero]
      congr 1
      rw [u8s_len, hx, show 32 = (u8s a).length by rw [u8s_len, ha]]
      exact List.drop_left
    | succ i =>
      have := ih hl (i := i) (by simpa using hi)
      simp only [spl] at this
      simp only [idsC, List.set_cons_succ, ← this, spl]
      rw [show (i + 1) * 32 = (u8s a).length + i * 32 by rw [u8s_len, ha]; omega, List.take_append, List.take_of_length_le (by omega), List.drop_append, List.drop_of_length_le (l := u8s a) (by omega)]
      rw [show (u8s a).length + i * 32 - (u8s a).length = i * 32 by omega, show (u8s a).length + i * 32 + (u8s x).length - (u8s a).length = i * 32 + (u8s x).length by omega]
      simp
def swapL (l : List (List Int)) (i j : Nat) : List (List Int) := (l.set i (l.getD j [])).set j (l.getD i [])
theorem len32_set {l : List (List Int)} (h : len32 l) {x : List Int} (hx : x.length = 32) (i : Nat) : len32 (l.set i x) := fun a ha => by
  rcases List.mem_or_eq_of_mem_set ha with h' | rfl
  · exact h a h'
  · exact hx
theorem len32_get {l : List (List Int)} (h : len32 l) {i : Nat} (hi : i < l.length) : (l.getD i []).length = 32 := by rw [List.getD_eq_getElem?_getD, List.getElem?_eq_getElem hi]; exact h _ (List.getElem_mem hi)
abbrev rN (A : Option Addr) (c n : Nat) (l : List (List Int)) : SP := row t_api_ID 32 (.slice A n c) n (idsC l)
set_option maxHeartbeats 2000000 in
theorem dSwap_S {i j n : Nat} (hl : len32 l) (hn : l.length = n) (hi : i < n) (hj : j < n) :
    SC Try.prog n_blob_digests_Swap [.slice A n c, .int .i64 i, .int .i64 j] b (rN A c n l :: F) (fun _ F' => F' = rN A c n (swapL l i j) :: F) := by
  have hxi := len32_get hl (hn ▸ hi)
  have hxj := len32_get hl (hn ▸ hj)
  have si := idsC_seg hl (hn ▸ hi)
  have sj := idsC_seg hl (hn ▸ hj)
  have hsw : swapL l i j = (l.set i (l.getD j [])).set j (l.getD i []) := rfl
  have l1 := idsC_set hl hxj (hn ▸ hi)
  have l2 := idsC_set (len32_set hl hxj i) hxi (i := j) (by simp; omega)
  have e1 := idsC_len hl
  have e2 := idsC_len (len32_set hl hxj i)
  rw [List.length_set] at e2
  rw [hsw]
  generalize l.getD i [] = x at *
  generalize l.getD j [] = y at *
  have hij : i * 32 + 32 ≤ l.length * 32 ∧ j * 32 + 32 ≤ l.length * 32 := by omega
  refine enterS F_blob_digests_Swap rfl rfl rfl ?_
  refine sw_fact (fun w H => (H.oat (k := 0) rfl).form) ?_
  rintro ⟨A', c', hv, k1, k2, k3⟩
  cases hv
  obtain ⟨gg, oo, rfl⟩ := k3 (by omega)
  refine sw_freeC 13 [2, 3] (fl := flo) [] [(0, .slice (some ⟨gg, oo, none⟩) n c), (1, .int .i64 i), (2, .int .i64 j)] ⟨rfl, rfl, rfl, trivial⟩ rfl (by kernel_rfl) (by kernel_rfl) (by decide) ?_
  ((iterate 6 refine fc_p (fun _ => rfl) ?_); refine fc_c (fun _ => rfl) (by omega) ?_)
  refine fc_ldrow 0 (j * 32) rfl rfl rfl rfl (fun _ => rfl) rfl (by rw [mulz_eq, Int.toNat_natCast]) (by omega) sj (by rw [u8s_len, hxj]; rfl) ?_
  ((iterate 2 refine fc_p (fun _ => rfl) ?_); refine fc_c (fun _ => rfl) (by omega) ?_)
  refine fc_ldrow 0 (i * 32) rfl rfl rfl rfl (fun _ => rfl) rfl (by rw [mulz_eq, Int.toNat_natCast]) (by omega) si (by rw [u8s_len, hxi]; rfl) ?_
  (refine fc_c (fun _ => rfl) (by omega) ?_)
  refine .done rfl fun gg => ⟨ent_nil _, ?_⟩
  refine sd_strow 0 (i * 32) rfl rfl rfl rfl rfl rfl rfl rfl rfl l1 (by rw [u8s_len, hxj]; rfl) (by rw [mulz_eq, Int.toNat_natCast]) (by rw [u8s_len, hxj]; omega) (u8s_one _) (ent_nil _) ?_
  (refine sd_2 rfl rfl (by omega) ?_)
  refine sd_strow 0 (j * 32) rfl rfl rfl rfl rfl rfl rfl rfl rfl l2 (by rw [u8s_len, hxi]; rfl) (by rw [mulz_eq, Int.toNat_natCast]) (by rw [u8s_len, hxi]; omega) (u8s_one _) (ent_nil _) ?_
  refine sd_nil ?_
  refine sn_end rfl .nil (ent_keep 0 [] rfl rfl) ?_
  exact rfl
end
end Go.Proofs.Ytahimopjohdkjaa
/- Blobs, part eight: the heap's Push and Pop. Conditions: not too many. -/
namespace Go.Proofs.Ytahimopjohdkjaa
open Go.Eng Go.RowKit Go.WideMaps

theorem idsC_app (l : List (List Int)) (x : List Int) : idsC l ++ u8s x = idsC (l ++ [x]) := by
  induction l with
  | nil => simp [idsC]
  | cons a l ih => simp only [idsC, List.cons_append, List.append_assoc, ih]
section
variable {b : World} {F : List SP} {A : Option Addr} {c n gh : Nat} {l : List (List Int)} {x : List Int}
set_option maxHeartbeats 1000000 in
theorem dPush_S (hx : x.length = 32) (hn : n ≤ 1000000) :
    SC Try.prog n_p_blob_digests_Push [.pointer (some ⟨gh, 0, none⟩), .iface t_api_ID (idV x)] b (pt gh t_blob_digests [.slice A n c] :: rN A c n l :: F)
      (fun _ F' => ∃ A' c', F' = pt gh t_blob_digests [.slice A' (n + 1) c'] :: rN A' c' (n + 1) (l ++ [x]) :: F) := by
  refine enterS F_p_blob_digests_Push rfl rfl rfl ?_
  refine sw_draw2 flo 9 (pt gh t_blob_digests [.slice A n c] :: F) [] rfl (by decide +kernel) (ent_keep 2 [0] rfl rfl) ?_
  ((iterate 3 refine sd_1 rfl (.inl rfl) ?_); refine sd_l 0 rfl rfl rfl rfl ?_; refine sd_1 rfl (.inl rfl) ?_)
  refine sd_as rfl rfl rfl rfl rfl rfl rfl ?_
  refine sd_lit1 rfl rfl rfl rfl rfl rfl rfl rfl (by rw [u8s_len, hx]; rfl) (by decide) (ent_keep 2 [0] rfl rfl) fun gl => ?_
  refine sd_append 2 rfl rfl rfl rfl rfl rfl rfl rfl rfl rfl (m := 1) (news := u8s x) (fun w H => (H.blk (k := 0) rfl).sl (by rw [u8s_len, hx]) (by decide)) (u8s_one _) (by omega) (fun _ => rfl) (fun _ => ent_keep 3 [1] rfl rfl) fun v8 => ?_
  rw [idsC_app]
  refine sd_fact (fun w H => (H.oat (k := 2) rfl).form) ?_
  rintro ⟨A7, c7, rfl, _, _, _⟩
  (refine sd_1 rfl (.inl rfl) ?_)
  refine sd_nil (sn_draw2 rfl (ent_nil _) ?_)
  refine sd_st 1 rfl rfl rfl rfl rfl rfl rfl rfl rfl rfl rfl (ent_nil _) ?_
  refine sd_nil ?_
  refine sn_end rfl .nil (ent_keep 3 [1, 2] rfl rfl) ?_
  exact ⟨A7, c7, rfl⟩
set_option maxHeartbeats 1000000 in
theorem dPop_S {l0 : List (List Int)} (hl : len32 l0) (hx : x.length = 32) :
    SC Try.prog n_p_blob_digests_Pop [.pointer (some ⟨gh, 0, none⟩)] b (pt gh t_blob_digests [.slice A (l0.length + 1) c] :: rN A c (l0.length + 1) (l0 ++ [x]) :: F)
      (fun v F' => v = .iface t_api_ID (idV x) ∧ F' = pt gh t_blob_digests [.slice A l0.length c] :: rN A c l0.length l0 :: F) := by
  have hl' : len32 (l0 ++ [x]) := fun a ha => by
    rcases List.mem_append.1 ha with h | h
    · exact hl a h
    · simp at h; subst h; exact hx
  have sx := idsC_seg hl' (i := l0.length) (by simp)
  have hg : (l0 ++ [x]).getD l0.length [] = x := by simp
  rw [hg] at sx
  have hN : (((l0.length + 1 : Nat) : Int) - 1).toNat = l0.length := by omega
  refine enterS F_p_blob_digests_Pop rfl rfl rfl ?_
  refine sw_fact (fun w H => (H.oat (k := 1) rfl).form) ?_
  rintro ⟨A', c', hv, k1, k2, k3⟩
  cases hv
  obtain ⟨gg, oo, rfl⟩ := k3 (by omega)
  (refine sw_seq ?_; refine sw_region ?_; refine so_1 rfl ?_; refine so_nil ?_; refine sn_then ?_; refine sw_seq ?_)
  refine sw_draw flo (pt gh t_blob_digests [.slice (some ⟨gg, oo, none⟩) (l0.length + 1) c] :: rN (some ⟨gg, oo, none⟩) c (l0.length + 1) (l0 ++ [x]) :: F) (by decide +kernel) (Ent.refl _) ?_
  ((iterate 2 refine sd_1 rfl (.inl rfl) ?_); refine sd_l 0 rfl rfl rfl rfl ?_; (iterate 2 refine sd_1 rfl (.inl rfl) ?_); refine sd_l 0 rfl rfl rfl rfl ?_; refine sd_1 rfl (.inl rfl) ?_; refine sd_2 rfl rfl (by (unfold I64; omega)) ?_; refine sd_2 rfl rfl (by omega) ?_)
  refine sd_ldrow 1 (l0.length * 32) rfl rfl rfl rfl rfl rfl rfl rfl (by rw [mulz_eq, hN]) (by omega) sx (by rw [u8s_len, hx]; rfl) ?_
  refine sd_new rfl rfl rfl rfl rfl rfl (ent_keep 0 [] rfl rfl) fun g3 => ?_
  refine sd_stW 0 rfl rfl rfl rfl rfl rfl rfl rfl (by rw [u8s_len, hx]; rfl) (u8s_one _) (by simp [hx]) (ent_keep 1 [] rfl rfl) ?_
  refine sd_nil ?_
  (refine sn_then ?_; refine sw_seq ?_)
  refine sw_draw2 flo 11 (pt gh t_blob_digests [.slice (some ⟨gg, oo, none⟩) (l0.length + 1) c] :: F) [] rfl (by decide +kernel) (ent_keep 3 [1] rfl rfl) ?_
  ((iterate 3 refine sd_1 rfl (.inl rfl) ?_); refine sd_l 0 rfl rfl rfl rfl ?_; (iterate 2 refine sd_1 rfl (.inl rfl) ?_); refine sd_l 0 rfl rfl rfl rfl ?_; refine sd_1 rfl (.inl rfl) ?_; refine sd_2 rfl rfl (by (unfold I64; omega)) ?_; refine sd_2 rfl rfl (by omega) ?_; refine sd_1 rfl (.inl rfl) ?_)
  refine sd_know 23 (.slice (some ⟨gg, oo, none⟩) l0.length c) rfl (by first | rfl | (rw [hN]; rfl) | (simp [hN]; done)) ?_
  skip
  refine sd_nil (sn_draw2 rfl (ent_nil _) ?_)
  refine sd_st 1 rfl rfl rfl rfl rfl rfl rfl rfl rfl rfl rfl (ent_nil _) ?_
  refine sd_nil ?_
  (refine sn_then ?_; refine sw_seq ?_; refine sw_region ?_)
  refine so_ldA 0 rfl rfl rfl rfl rfl rfl (segID hx) rfl ?_
  ((iterate 2 refine so_1 rfl ?_); refine so_nil ?_; refine sn_then ?_; refine sw_ret ?_)
  have e1 : (idsC (l0 ++ [x])).take (l0.length * 32) = idsC l0 := by rw [← idsC_app, ← idsC_len hl, List.take_left]
  refine sn_ret rfl (.tmp rfl .nil) ((ent_row_take (j := l0.length) (by omega) 2 rfl rfl).trans (ent_keep 3 [1, 2] rfl rfl)) ?_
  rw [e1]
  exact ⟨rfl, rfl⟩
end
end Go.Proofs.Ytahimopjohdkjaa
/- Blobs, part nine: the heap: up. Conditions: not too many. -/
namespace Go.Proofs.Ytahimopjohdkjaa
open Go.Eng Go.RowKit Go.WideMaps

instance : MethP Try.prog t_p_blob_digests "Push" n_p_blob_digests_Push := ⟨by kernel_rfl, inferInstance⟩
instance : MethP Try.prog t_p_blob_digests "Pop" n_p_blob_digests_Pop := ⟨by kernel_rfl, inferInstance⟩
instance : MethV Try.prog t_p_blob_digests "Len" n_blob_digests_Len := ⟨by kernel_rfl, inferInstance⟩
instance : MethV Try.prog t_p_blob_digests "Less" n_blob_digests_Less := ⟨by kernel_rfl, inferInstance⟩
instance : MethV Try.prog t_p_blob_digests "Swap" n_blob_digests_Swap := ⟨by kernel_rfl, inferInstance⟩
end Go.Proofs.Ytahimopjohdkjaa
/- Blobs, part ten: the heap: up. Conditions: not too many. -/
namespace Go.Proofs.Ytahimopjohdkjaa
open Go.Eng Go.RowKit Go.WideMaps

def upM : Nat → List (List Int) → Nat → List (List Int)
  | 0, l, _ => l
  | k + 1, l, j => if j = 0 then l else if cmpM (l.getD j []) (l.getD ((j - 1) / 2) []) < 0 then upM k (swapL l ((j - 1) / 2) j) ((j - 1) / 2) else l
theorem swapL_len (l : List (List Int)) (i j : Nat) : (swapL l i j).length = l.length := by simp [swapL]
theorem swapL_32 {l : List (List Int)} (h : len32 l) {i j : Nat} (hi : i < l.length) (hj : j < l.length) : len32 (swapL l i j) := len32_set (len32_set h (len32_get h hj) i) (len32_get h hi) j
theorem upM_fuel (k : Nat) : ∀ l p, p < k → upM k l p = upM (p + 1) l p := by
  induction k using Nat.strongRecOn with
  | ind k ih =>
    intro l p hp
    cases k with
    | zero => omega
    | succ k =>
      simp only [upM]
      split
      · rfl
      · split
        · exact (ih k (by omega) _ _ (by omega)).trans (ih p (by omega) _ _ (by omega)).symm
        · rfl
theorem tdiv2 (j : Nat) : Int.tdiv ((j : Int) - 1) 2 = (((j - 1) / 2 : Nat) : Int) := by
  cases j with
  | zero => rfl
  | succ j =>
    have : (((j + 1 : Nat) : Int) - 1) = (j : Int) := by omega
    rw [this, Nat.add_sub_cancel]
    rfl
theorem tdiv2w {j : Nat} (h : j ≤ 1000000) : IntKind.i64.wrap (Int.tdiv ((j : Int) - 1) 2) = (((j - 1) / 2 : Nat) : Int) := by
  rw [tdiv2]; exact I64.wrap (by unfold I64; omega)
section
variable {b : World} {F : List SP} {A : Option Addr} {c n gh : Nat} {l : List (List Int)}
set_option maxHeartbeats 1000000 in
theorem up_S {j : Nat} (hl : len32 l) (hn : l.length = n) (hj : j < n) (hm : n ≤ 1000000) :
    SC Try.prog n_container_heap_up [.iface t_p_blob_digests (.pointer (some ⟨gh, 0, none⟩)), .int .i64 j] b (pt gh t_blob_digests [.slice A n c] :: rN A c n l :: F)
      (fun _ F' => F' = pt gh t_blob_digests [.slice A n c] :: rN A c n (upM (j + 1) l j) :: F) := by
  refine enterS F_container_heap_up rfl rfl rfl ?_
  (refine sw_block ?_)
  refine sw_loop (S := List (List Int) × Nat) (fun s => [(0, .iface t_p_blob_digests (.pointer (some ⟨gh, 0, none⟩))), (1, .int .i64 s.2)]) (fun s => pt gh t_blob_digests [.slice A n c] :: rN A c n s.1 :: F)
    (fun s => len32 s.1 ∧ s.1.length = n ∧ s.2 < n ∧ upM (s.2 + 1) s.1 s.2 = upM (j + 1) l j) (fun s => s.2) (l, j) ⟨rfl, rfl, trivial⟩ (Ent.refl _) ⟨hl, hn, hj, rfl⟩ ?_
  rintro ⟨m, i⟩ ⟨i1, i2, i3, i4⟩
  dsimp only at i1 i2 i3 i4 ⊢
  (refine sw_block ?_; refine sw_seq ?_; refine sw_region ?_; refine so_1 rfl ?_; refine so_2 rfl (by (unfold I64; omega)) ?_; refine so_2 rfl (by omega) ?_; refine so_1 rfl ?_; refine so_nil ?_; refine sn_then ?_; (iterate 2 refine sw_seq ?_); refine sw_region ?_; (iterate 4 refine so_1 rfl ?_))
  refine so_know 4 (.int .i64 (((i - 1) / 2 : Nat) : Int)) rfl (congrArg (Value.int .i64) (tdiv2w (by omega))) ?_
  by_cases h0 : i = 0
  · refine so_know 11 (.bool true) rfl (by rw [tdiv2w (by omega)]; simp [h0]) ?_
    ((iterate 6 refine so_1 rfl ?_); refine so_nil ?_; refine sn_then ?_; refine sw_cond_t rfl ?_; refine sw_exit ?_; refine sn_then_exit ?_; refine sn_block_other rfl ?_; refine sn_loop_exit ?_; refine sn_block_exit ?_)
    subst h0
    have e : m = upM (j + 1) l j := by rw [← i4]; simp [upM]
    refine sn_end rfl .nil (ent_keep 0 [] rfl rfl) ?_
    rw [e]
  · refine so_know 11 (.bool false) rfl (by rw [tdiv2w (by omega)]; simp; omega) ?_
    ((iterate 3 refine so_1 rfl ?_))
    have hp : (i - 1) / 2 < m.length := by omega
    subst i2
    have hless := dLess_S (b := b) (F := pt gh t_blob_digests [.slice A m.length c] :: F) (A := A) (c := c) (l := m) (i := i) (j := (i - 1) / 2) i1 (by omega) hp
    refine so_invVE 0 rfl rfl rfl rfl rfl rfl rfl rfl (hless.at (ent_keep 2 [1, 0] rfl rfl) (ent_keep 2 [1, 0] rfl rfl)) ?_
    by_cases h1 : cmpM (m.getD i []) (m.getD ((i - 1) / 2) []) < 0
    · refine so_know 15 (.bool true) rfl (congrArg Value.bool (decide_eq_true h1)) ?_
      ((iterate 2 refine so_1 rfl ?_); refine so_nil ?_; refine sn_then ?_; refine sw_cond_f rfl ?_; refine sw_skip ?_; refine sn_then ?_; refine sw_seq ?_; refine sw_region ?_; (iterate 3 refine so_1 rfl ?_))
      have hswap := dSwap_S (b := b) (F := pt gh t_blob_digests [.slice A m.length c] :: F) (A := A) (c := c) (n := m.length) (l := m) (i := (i - 1) / 2) (j := i) i1 rfl hp i3
      refine so_invV 0 rfl rfl rfl rfl rfl rfl rfl rfl (hswap.ent (ent_keep 2 [1, 0] rfl rfl)) ?_
      rintro _ _ rfl
      (refine so_nil ?_; refine sn_then ?_; refine sw_region ?_; (iterate 2 refine so_1 rfl ?_); refine so_nil ?_; refine sn_block ?_)
      refine sn_round (swapL m ((i - 1) / 2) i, (i - 1) / 2) ⟨rfl, rfl, trivial⟩ (ent_keep 2 [1, 0] rfl rfl) ⟨swapL_32 i1 hp i3, swapL_len _ _ _, hp, ?_⟩ (by dsimp only; omega)
      rw [← i4]
      simp only [upM, if_neg h0, if_pos h1]
      exact (upM_fuel i _ _ (by omega)).symm
    · refine so_know 15 (.bool false) rfl (congrArg Value.bool (decide_eq_false h1)) ?_
      ((iterate 2 refine so_1 rfl ?_); refine so_nil ?_; refine sn_then ?_; refine sw_cond_t rfl ?_; refine sw_exit ?_; refine sn_then_exit ?_; refine sn_block_other rfl ?_; refine sn_loop_exit ?_; refine sn_block_exit ?_)
      have e : m = upM (j + 1) l j := by rw [← i4]; simp only [upM, if_neg h0, if_neg h1]
      refine sn_end rfl .nil (ent_keep 0 [] rfl rfl) ?_
      rw [← e]
end
end Go.Proofs.Ytahimopjohdkjaa
/- Blobs, part eleven: the heap: down, Push, Pop. Conditions: not too many. -/
namespace Go.Proofs.Ytahimopjohdkjaa
open Go.Eng Go.RowKit Go.WideMaps

def dnJ (n : Nat) (l : List (List Int)) (i : Nat) : Nat := if 2 * i + 2 < n ∧ cmpM (l.getD (2 * i + 2) []) (l.getD (2 * i + 1) []) < 0 then 2 * i + 2 else 2 * i + 1
theorem dnJ_lt {n : Nat} {l : List (List Int)} {i : Nat} (h : ¬ n ≤ 2 * i + 1) : dnJ n l i < n ∧ i < dnJ n l i := by unfold dnJ; split <;> omega
def dnM : Nat → Nat → List (List Int) → Nat → List (List Int)
  | 0, _, l, _ => l
  | k + 1, n, l, i => if n ≤ 2 * i + 1 then l else if cmpM (l.getD (dnJ n l i) []) (l.getD i []) < 0 then dnM k n (swapL l i (dnJ n l i)) (dnJ n l i) else l
theorem dnM_fuel (k : Nat) : ∀ n l i, n - i ≤ k → dnM k n l i = dnM (n - i) n l i := by
  induction k using Nat.strongRecOn with
  | ind k ih =>
    intro n l i hk
    cases k with
    | zero => rw [show n - i = 0 by omega]
    | succ k =>
      rcases Nat.eq_zero_or_pos (n - i) with h0 | h0
      · rw [h0]; simp only [dnM]; rw [if_pos (by omega)]
      · obtain ⟨m, hm⟩ : ∃ m, n - i = m + 1 := ⟨n - i - 1, by omega⟩
        rw [hm]
        simp only [dnM]
        split
        · rfl
        · rename_i h1
          have := dnJ_lt (l := l) h1
          split
          · exact (ih k (by omega) _ _ _ (by omega)).trans (ih m (by omega) _ _ _ (by omega)).symm
          · rfl
section
variable {b : World} {F : List SP} {A : Option Addr} {c n gh : Nat} {l : List (List Int)}
set_option maxHeartbeats 1000000 in
theorem down_S {n0 : Nat} (hl : len32 l) (hn : l.length = n) (h0 : n0 ≤ n) (hm : n ≤ 1000000) :
    SC Try.prog n_container_heap_down [.iface t_p_blob_digests (.pointer (some ⟨gh, 0, none⟩)), .int .i64 0, .int .i64 n0] b (pt gh t_blob_digests [.slice A n c] :: rN A c n l :: F)
      (fun _ F' => F' = pt gh t_blob_digests [.slice A n c] :: rN A c n (dnM n0 n0 l 0) :: F) := by
  refine enterS F_container_heap_down rfl rfl rfl ?_
  (refine sw_seq ?_; refine sw_region ?_; refine so_1 rfl ?_; refine so_nil ?_; refine sn_then ?_; refine sw_seq ?_; refine sw_region ?_; (iterate 2 refine so_1 rfl ?_); refine so_nil ?_; refine sn_then ?_; refine sw_seq ?_; refine sw_block ?_)
  refine sw_loop (S := List (List Int) × Nat) (fun s => [(0, .iface t_p_blob_digests (.pointer (some ⟨gh, 0, none⟩))), (1, .int .i64 0), (2, .int .i64 n0), (7, .int .i64 s.2)]) (fun s => pt gh t_blob_digests [.slice A n c] :: rN A c n s.1 :: F)
    (fun s => len32 s.1 ∧ s.1.length = n ∧ (s.2 = 0 ∨ s.2 < n0) ∧ dnM (n0 - s.2) n0 s.1 s.2 = dnM n0 n0 l 0) (fun s => n0 - s.2) (l, 0) ⟨rfl, rfl, rfl, rfl, trivial⟩ (Ent.refl _) ⟨hl, hn, .inl rfl, by rw [Nat.sub_zero]⟩ ?_
  rintro ⟨m, i⟩ ⟨i1, i2, i3, i4⟩
  dsimp only at i1 i2 i3 i4 ⊢
  (refine sw_block ?_; refine sw_seq ?_; refine sw_region ?_; refine so_1 rfl ?_; (iterate 2 refine so_2 rfl (by (unfold I64; omega)) ?_); refine so_1 rfl ?_; refine so_nil ?_; refine sn_then ?_; (iterate 2 refine sw_seq ?_); refine sw_region ?_; (iterate 4 refine so_1 rfl ?_))
  by_cases c1 : n0 ≤ 2 * i + 1
  · refine so_know 18 (.bool true) rfl (by simp; omega) ?_
    ((iterate 3 refine so_1 rfl ?_); refine so_nil ?_; refine sn_then ?_; refine sw_cond_t rfl ?_; refine sw_exit ?_; refine sn_then_exit ?_; refine sn_block_other rfl ?_; refine sn_loop_exit ?_; refine sn_block_exit ?_; refine sn_then ?_; refine sw_seq ?_; refine sw_region ?_; (iterate 4 refine so_1 rfl ?_); refine so_nil ?_; refine sn_then ?_; refine sw_ret ?_)
    have e : m = dnM n0 n0 l 0 := by
      rw [← i4]
      cases hk : n0 - i with
      | zero => rfl
      | succ k => simp only [dnM]; rw [if_pos c1]
    refine sn_ret rfl (.tmp rfl .nil) (ent_keep 0 [] rfl rfl) ?_
    rw [e]
  · refine so_know 18 (.bool false) rfl (by simp; omega) ?_
    ((iterate 3 refine so_1 rfl ?_); refine so_nil ?_; refine sn_then ?_; refine sw_cond_f rfl ?_; refine sw_skip ?_; refine sn_then ?_; refine sw_seq ?_; refine sw_region ?_; (iterate 2 refine so_1 rfl ?_); refine so_nil ?_; refine sn_then ?_; (iterate 2 refine sw_seq ?_); refine sw_region ?_; refine so_1 rfl ?_; refine so_2 rfl (by (unfold I64; omega)) ?_; refine so_1 rfl ?_; refine so_nil ?_; refine sn_then ?_; refine sw_seq ?_; refine sw_region ?_; (iterate 4 refine so_1 rfl ?_))
    refine so_know 21 (.bool false) rfl (by simp; omega) ?_
    skip
    obtain ⟨k, hk⟩ : ∃ k, n0 - i = k + 1 := ⟨n0 - i - 1, by omega⟩
    have hJ := dnJ_lt (l := m) c1
    obtain ⟨j, hj⟩ : ∃ j, j = dnJ n0 m i := ⟨_, rfl⟩
    rw [← hj] at hJ
    by_cases c2 : 2 * i + 2 < n0
    · refine so_know 28 (.bool true) rfl (by simp; omega) ?_
      ((iterate 3 refine so_1 rfl ?_))
      subst i2
      have hless := dLess_S (b := b) (F := pt gh t_blob_digests [.slice A m.length c] :: F) (A := A) (c := c) (l := m) (i := 2 * i + 2) (j := 2 * i + 1) i1 (by omega) (by omega)
      refine so_know 30 (.int .i64 (2 * i + 2 : Nat)) rfl (by first | rfl | (congr 1; omega)) ?_
      refine so_know 31 (.int .i64 (2 * i + 1 : Nat)) rfl (by first | rfl | (congr 1; omega)) ?_
      refine so_invVE 0 rfl rfl rfl rfl rfl rfl rfl rfl (hless.at (ent_keep 2 [1, 0] rfl rfl) (ent_keep 2 [1, 0] rfl rfl)) ?_
      by_cases c3 : cmpM (m.getD (2 * i + 2) []) (m.getD (2 * i + 1) []) < 0
      · refine so_know 32 (.bool true) rfl (congrArg Value.bool (decide_eq_true c3)) ?_
        have e : j = 2 * i + 2 := by rw [hj, dnJ, if_pos ⟨c2, c3⟩]
        (refine so_1 rfl ?_; refine so_nil ?_; refine sn_then ?_; refine sw_cond_t rfl ?_; refine sw_region ?_; (iterate 2 refine so_1 rfl ?_); refine so_nil ?_; refine sn_then ?_; (iterate 2 refine sw_seq ?_); refine sw_region ?_; (iterate 3 refine so_1 rfl ?_))
        refine so_know 36 (.int .i64 j) rfl (by congr 1; omega) ?_
        refine so_know 9 (.int .i64 j) rfl (by congr 1; omega) ?_
        have hless2 := dLess_S (b := b) (F := pt gh t_blob_digests [.slice A m.length c] :: F) (A := A) (c := c) (l := m) (i := j) (j := i) i1 (by omega) (by omega)
        refine so_invVE 0 rfl rfl rfl rfl rfl rfl rfl rfl (hless2.at (ent_keep 2 [1, 0] rfl rfl) (ent_keep 2 [1, 0] rfl rfl)) ?_
        by_cases c4 : cmpM (m.getD j []) (m.getD i []) < 0
        · refine so_know 38 (.bool true) rfl (congrArg Value.bool (decide_eq_true c4)) ?_
          (refine so_1 rfl ?_; refine so_nil ?_; refine sn_then ?_; refine sw_cond_f rfl ?_; refine sw_skip ?_; refine sn_then ?_; refine sw_seq ?_; refine sw_region ?_; (iterate 3 refine so_1 rfl ?_))
          have hswap := dSwap_S (b := b) (F := pt gh t_blob_digests [.slice A m.length c] :: F) (A := A) (c := c) (n := m.length) (l := m) (i := i) (j := j) i1 rfl (by omega) (by omega)
          refine so_invV 0 rfl rfl rfl rfl rfl rfl rfl rfl (hswap.ent (ent_keep 2 [1, 0] rfl rfl)) ?_
          rintro _ _ rfl
          (refine so_nil ?_; refine sn_then ?_; refine sw_region ?_; (iterate 2 refine so_1 rfl ?_); refine so_nil ?_; refine sn_block ?_)
          refine sn_round (swapL m i j, j) ⟨rfl, rfl, rfl, rfl, trivial⟩ (ent_keep 2 [1, 0] rfl rfl) ⟨swapL_32 i1 (by omega) (by omega), swapL_len _ _ _, .inr hJ.1, ?_⟩ (by dsimp only; omega)
          rw [← i4, hk]
          simp only [dnM, ← hj, if_neg c1, if_pos c4]
          exact (dnM_fuel k _ _ _ (by omega)).symm
        · refine so_know 38 (.bool false) rfl (congrArg Value.bool (decide_eq_false c4)) ?_
          (refine so_1 rfl ?_; refine so_nil ?_; refine sn_then ?_; refine sw_cond_t rfl ?_; refine sw_exit ?_; refine sn_then_exit ?_; refine sn_block_other rfl ?_; refine sn_loop_exit ?_; refine sn_block_exit ?_; refine sn_then ?_; refine sw_seq ?_; refine sw_region ?_; (iterate 4 refine so_1 rfl ?_); refine so_nil ?_; refine sn_then ?_; refine sw_ret ?_)
          have e9 : m = dnM n0 n0 l 0 := by rw [← i4, hk]; simp only [dnM, ← hj, if_neg c1, if_neg c4]
          refine sn_ret rfl (.tmp rfl .nil) (ent_keep 0 [] rfl rfl) ?_
          rw [← e9]
      · refine so_know 32 (.bool false) rfl (congrArg Value.bool (decide_eq_false c3)) ?_
        have e : j = 2 * i + 1 := by rw [hj, dnJ, if_neg (fun h => c3 h.2)]
        (refine so_1 rfl ?_; refine so_nil ?_; refine sn_then ?_; refine sw_cond_f rfl ?_; refine sw_skip ?_; refine sn_then ?_; (iterate 2 refine sw_seq ?_); refine sw_region ?_; (iterate 3 refine so_1 rfl ?_))
        refine so_know 36 (.int .i64 j) rfl (by congr 1; omega) ?_
        refine so_know 9 (.int .i64 j) rfl (by congr 1; omega) ?_
        have hless2 := dLess_S (b := b) (F := pt gh t_blob_digests [.slice A m.length c] :: F) (A := A) (c := c) (l := m) (i := j) (j := i) i1 (by omega) (by omega)
        refine so_invVE 0 rfl rfl rfl rfl rfl rfl rfl rfl (hless2.at (ent_keep 2 [1, 0] rfl rfl) (ent_keep 2 [1, 0] rfl rfl)) ?_
        by_cases c4 : cmpM (m.getD j []) (m.getD i []) < 0
        · refine so_know 38 (.bool true) rfl (congrArg Value.bool (decide_eq_true c4)) ?_
          (refine so_1 rfl ?_; refine so_nil ?_; refine sn_then ?_; refine sw_cond_f rfl ?_; refine sw_skip ?_; refine sn_then ?_; refine sw_seq ?_; refine sw_region ?_; (iterate 3 refine so_1 rfl ?_))
          have hswap := dSwap_S (b := b) (F := pt gh t_blob_digests [.slice A m.length c] :: F) (A := A) (c := c) (n := m.length) (l := m) (i := i) (j := j) i1 rfl (by omega) (by omega)
          refine so_invV 0 rfl rfl rfl rfl rfl rfl rfl rfl (hswap.ent (ent_keep 2 [1, 0] rfl rfl)) ?_
          rintro _ _ rfl
          (refine so_nil ?_; refine sn_then ?_; refine sw_region ?_; (iterate 2 refine so_1 rfl ?_); refine so_nil ?_; refine sn_block ?_)
          refine sn_round (swapL m i j, j) ⟨rfl, rfl, rfl, rfl, trivial⟩ (ent_keep 2 [1, 0] rfl rfl) ⟨swapL_32 i1 (by omega) (by omega), swapL_len _ _ _, .inr hJ.1, ?_⟩ (by dsimp only; omega)
          rw [← i4, hk]
          simp only [dnM, ← hj, if_neg c1, if_pos c4]
          exact (dnM_fuel k _ _ _ (by omega)).symm
        · refine so_know 38 (.bool false) rfl (congrArg Value.bool (decide_eq_false c4)) ?_
          (refine so_1 rfl ?_; refine so_nil ?_; refine sn_then ?_; refine sw_cond_t rfl ?_; refine sw_exit ?_; refine sn_then_exit ?_; refine sn_block_other rfl ?_; refine sn_loop_exit ?_; refine sn_block_exit ?_; refine sn_then ?_; refine sw_seq ?_; refine sw_region ?_; (iterate 4 refine so_1 rfl ?_); refine so_nil ?_; refine sn_then ?_; refine sw_ret ?_)
          have e9 : m = dnM n0 n0 l 0 := by rw [← i4, hk]; simp only [dnM, ← hj, if_neg c1, if_neg c4]
          refine sn_ret rfl (.tmp rfl .nil) (ent_keep 0 [] rfl rfl) ?_
          rw [← e9]
    · refine so_know 28 (.bool false) rfl (by simp; omega) ?_
      ((iterate 5 refine so_1 rfl ?_); refine so_nil ?_; refine sn_then ?_; refine sw_cond_f rfl ?_; refine sw_skip ?_; refine sn_then ?_; (iterate 2 refine sw_seq ?_); refine sw_region ?_; (iterate 3 refine so_1 rfl ?_))
      have e : j = 2 * i + 1 := by rw [hj, dnJ, if_neg (fun h => c2 h.1)]
      subst i2
      refine so_know 36 (.int .i64 j) rfl (by congr 1; omega) ?_
      refine so_know 9 (.int .i64 j) rfl (by congr 1; omega) ?_
      have hless2 := dLess_S (b := b) (F := pt gh t_blob_digests [.slice A m.length c] :: F) (A := A) (c := c) (l := m) (i := j) (j := i) i1 (by omega) (by omega)
      refine so_invVE 0 rfl rfl rfl rfl rfl rfl rfl rfl (hless2.at (ent_keep 2 [1, 0] rfl rfl) (ent_keep 2 [1, 0] rfl rfl)) ?_
      by_cases c4 : cmpM (m.getD j []) (m.getD i []) < 0
      · refine so_know 38 (.bool true) rfl (congrArg Value.bool (decide_eq_true c4)) ?_
        (refine so_1 rfl ?_; refine so_nil ?_; refine sn_then ?_; refine sw_cond_f rfl ?_; refine sw_skip ?_; refine sn_then ?_; refine sw_seq ?_; refine sw_region ?_; (iterate 3 refine so_1 rfl ?_))
        have hswap := dSwap_S (b := b) (F := pt gh t_blob_digests [.slice A m.length c] :: F) (A := A) (c := c) (n := m.length) (l := m) (i := i) (j := j) i1 rfl (by omega) (by omega)
        refine so_invV 0 rfl rfl rfl rfl rfl rfl rfl rfl (hswap.ent (ent_keep 2 [1, 0] rfl rfl)) ?_
        rintro _ _ rfl
        (refine so_nil ?_; refine sn_then ?_; refine sw_region ?_; (iterate 2 refine so_1 rfl ?_); refine so_nil ?_; refine sn_block ?_)
        refine sn_round (swapL m i j, j) ⟨rfl, rfl, rfl, rfl, trivial⟩ (ent_keep 2 [1, 0] rfl rfl) ⟨swapL_32 i1 (by omega) (by omega), swapL_len _ _ _, .inr hJ.1, ?_⟩ (by dsimp only; omega)
        rw [← i4, hk]
        simp only [dnM, ← hj, if_neg c1, if_pos c4]
        exact (dnM_fuel k _ _ _ (by omega)).symm
      · refine so_know 38 (.bool false) rfl (congrArg Value.bool (decide_eq_false c4)) ?_
        (refine so_1 rfl ?_; refine so_nil ?_; refine sn_then ?_; refine sw_cond_t rfl ?_; refine sw_exit ?_; refine sn_then_exit ?_; refine sn_block_other rfl ?_; refine sn_loop_exit ?_; refine sn_block_exit ?_; refine sn_then ?_; refine sw_seq ?_; refine sw_region ?_; (iterate 4 refine so_1 rfl ?_); refine so_nil ?_; refine sn_then ?_; refine sw_ret ?_)
        have e9 : m = dnM n0 n0 l 0 := by rw [← i4, hk]; simp only [dnM, ← hj, if_neg c1, if_neg c4]
        refine sn_ret rfl (.tmp rfl .nil) (ent_keep 0 [] rfl rfl) ?_
        rw [← e9]
end
end Go.Proofs.Ytahimopjohdkjaa
/- Blobs, part twelve: the heap: Push, Pop. Conditions: not too many. -/
namespace Go.Proofs.Ytahimopjohdkjaa
open Go.Eng Go.RowKit Go.WideMaps

theorem upM_len (k : Nat) : ∀ l j, (upM k l j).length = l.length := by
  induction k with
  | zero => intro l j; rfl
  | succ k ih => intro l j; simp only [upM]; split; rfl; split; rw [ih, swapL_len]; rfl
theorem dnM_len (k : Nat) : ∀ n l j, (dnM k n l j).length = l.length := by
  induction k with
  | zero => intro n l j; rfl
  | succ k ih => intro n l j; simp only [dnM]; split; rfl; split; rw [ih, swapL_len]; rfl
theorem upM_32 (k : Nat) : ∀ l j, len32 l → j < l.length → len32 (upM k l j) := by
  induction k with
  | zero => intro l j h _; exact h
  | succ k ih =>
    intro l j h hj; simp only [upM]; split
    · exact h
    · split
      · exact ih _ _ (swapL_32 h (by omega) hj) (by rw [swapL_len]; omega)
      · exact h
theorem dnM_32 (k : Nat) : ∀ n l j, len32 l → j < l.length → n ≤ l.length → len32 (dnM k n l j) := by
  induction k with
  | zero => intro n l j h _ _; exact h
  | succ k ih =>
    intro n l j h hj hn; simp only [dnM]; split
    · exact h
    · rename_i h1
      have := dnJ_lt (l := l) h1
      split
      · exact ih _ _ _ (swapL_32 h hj (by omega)) (by rw [swapL_len]; omega) (by rw [swapL_len]; omega)
      · exact h
/-- What a heap is when the least is taken out. -/
def popL (l : List (List Int)) : List (List Int) := dnM (l.length - 1) (l.length - 1) (swapL l 0 (l.length - 1)) 0
theorem popL_len (l : List (List Int)) : (popL l).length = l.length := by rw [popL, dnM_len, swapL_len]
theorem popL_32 {l : List (List Int)} (h : len32 l) (hn : 0 < l.length) : len32 (popL l) := dnM_32 _ _ _ _ (swapL_32 h hn (by omega)) (by rw [swapL_len]; exact hn) (by rw [swapL_len]; omega)
section
variable {b : World} {F : List SP} {A : Option Addr} {c n gh : Nat} {l : List (List Int)} {x : List Int}
theorem dLenN_S : SC Try.prog n_blob_digests_Len [.slice A n c] b F (fun v F' => v = .int .i64 n ∧ F' = F) := by
  have := dLen_S (b := b) (F := F) (A := A) (c := c) (l := List.replicate n [])
  rwa [List.length_replicate] at this
set_option maxHeartbeats 1000000 in
theorem hPush_S (hl : len32 l) (hn : l.length = n) (hx : x.length = 32) (hm : n ≤ 900000) :
    SC Try.prog n_container_heap_Push [.iface t_p_blob_digests (.pointer (some ⟨gh, 0, none⟩)), .iface t_api_ID (idV x)] b (pt gh t_blob_digests [.slice A n c] :: rN A c n l :: F)
      (fun _ F' => ∃ A' c', F' = pt gh t_blob_digests [.slice A' (n + 1) c'] :: rN A' c' (n + 1) (upM (n + 1) (l ++ [x]) n) :: F) := by
  refine enterS F_container_heap_Push rfl rfl rfl ?_
  (refine sw_seq ?_; refine sw_region ?_; (iterate 2 refine so_1 rfl ?_))
  refine so_invP rfl rfl rfl (dPush_S hx (by omega)) ?_
  rintro _ _ ⟨A', c', rfl⟩
  (refine so_nil ?_; refine sn_then ?_; refine sw_region ?_; (iterate 2 refine so_1 rfl ?_))
  refine so_invVE 0 rfl rfl rfl rfl rfl rfl rfl rfl dLenN_S ?_
  (refine so_2 rfl (by (unfold I64; omega)) ?_)
  refine so_know 10 (.int .i64 n) rfl (by congr 1; omega) ?_
  have hl' : len32 (l ++ [x]) := fun a ha => by
    rcases List.mem_append.1 ha with h | h
    · exact hl a h
    · simp at h; subst h; exact hx
  refine so_call rfl rfl rfl (up_S (n := n + 1) (l := l ++ [x]) (j := n) hl' (by simp; omega) (by omega) (by omega)) ?_
  rintro _ _ rfl
  (refine so_nil ?_)
  refine sn_end rfl .nil (ent_keep 0 [] rfl rfl) ?_
  exact ⟨A', c', rfl⟩
set_option maxHeartbeats 1000000 in
theorem hPop_S (hl : len32 l) (hn : l.length = n + 1) (hm : n ≤ 900000) :
    SC Try.prog n_container_heap_Pop [.iface t_p_blob_digests (.pointer (some ⟨gh, 0, none⟩))] b (pt gh t_blob_digests [.slice A (n + 1) c] :: rN A c (n + 1) l :: F)
      (fun v F' => v = .iface t_api_ID (idV ((popL l).getD n [])) ∧ F' = pt gh t_blob_digests [.slice A n c] :: rN A c n ((popL l).take n) :: F) := by
  have p1 := popL_len l
  have p2 := popL_32 hl (by omega)
  have ep : popL l = (popL l).take n ++ [(popL l).getD n []] := by
    have h := (List.take_append_drop n (popL l)).symm
    have h2 : (popL l).drop n = [(popL l).getD n []] := by
      rw [List.getD_eq_getElem?_getD, List.getElem?_eq_getElem (by omega), Option.getD_some, List.drop_eq_getElem_cons (by omega), List.drop_of_length_le (by omega)]
    rwa [h2] at h
  have hL : ((popL l).take n).length = n := by rw [List.length_take]; omega
  have hx : ((popL l).getD n []).length = 32 := len32_get p2 (by omega)
  have hp : popL l = dnM n n (swapL l 0 n) 0 := by rw [popL, hn]; rfl
  refine enterS F_container_heap_Pop rfl rfl rfl ?_
  (refine sw_seq ?_; refine sw_region ?_; refine so_1 rfl ?_; refine so_nil ?_; refine sn_then ?_; refine sw_seq ?_; refine sw_region ?_; refine so_1 rfl ?_)
  refine so_invVE 0 rfl rfl rfl rfl rfl rfl rfl rfl dLenN_S ?_
  (refine so_2 rfl (by (unfold I64; omega)) ?_; refine so_1 rfl ?_; refine so_nil ?_; refine sn_then ?_; refine sw_seq ?_; refine sw_region ?_; (iterate 2 refine so_1 rfl ?_))
  refine so_know 8 (.int .i64 n) rfl (by congr 1; omega) ?_
  refine so_know 3 (.int .i64 n) rfl (by congr 1; omega) ?_
  have hswap := dSwap_S (b := b) (F := pt gh t_blob_digests [.slice A (n + 1) c] :: F) (A := A) (c := c) (n := n + 1) (l := l) (i := 0) (j := n) hl hn (by omega) (by omega)
  refine so_invV 0 rfl rfl rfl rfl rfl rfl rfl rfl (hswap.ent (ent_keep 2 [1, 0] rfl rfl)) ?_
  rintro _ _ rfl
  (refine so_nil ?_; refine sn_then ?_; refine sw_seq ?_; refine sw_region ?_; (iterate 2 refine so_1 rfl ?_))
  have hd := down_S (b := b) (F := F) (A := A) (c := c) (n := n + 1) (gh := gh) (l := swapL l 0 n) (n0 := n) (swapL_32 hl (by omega) (by omega)) (by rw [swapL_len]; exact hn) (by omega) (by omega)
  rw [← hp, ep] at hd
  refine so_call rfl rfl rfl (hd.ent (ent_keep 2 [1, 0] rfl rfl)) ?_
  rintro _ _ rfl
  (refine so_nil ?_; refine sn_then ?_; refine sw_seq ?_; refine sw_region ?_; refine so_1 rfl ?_)
  have hq := dPop_S (b := b) (F := F) (A := A) (c := c) (gh := gh) (x := (popL l).getD n []) (l0 := (popL l).take n) (fun a ha => p2 a (List.mem_of_mem_take ha)) hx
  rw [hL] at hq
  refine so_invP rfl rfl rfl hq ?_
  rintro _ _ ⟨rfl, rfl⟩
  (refine so_1 rfl ?_; refine so_nil ?_; refine sn_then ?_; refine sw_ret ?_)
  refine sn_ret rfl (.tmp rfl .nil) (ent_keep 0 [] rfl rfl) ?_
  exact ⟨rfl, rfl⟩
end
end Go.Proofs.Ytahimopjohdkjaa
