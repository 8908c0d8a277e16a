/- The engine, part fifteen: stepping through code where memory is told piece by piece. Conditions: as part two. -/
import Derived.Test.YtgebobjihojljaaEngO
namespace Go.Eng
open Go Go.RowKit

section
variable {P : Program} {ro : Option Nat} {N : Nat} {l rest : List Oper} {Q : Exit → Act → World → Prop} {E : List (Nat × Value)} {ds : List Deferred} {b : World} {F G : List SP} {e : Exit} {c : Code}

structure SW (P : Program) (ro : Option Nat) (N : Nat) (c : Code) (Q : Exit → Act → World → Prop) (E : List (Nat × Value)) (ds : List Deferred) (b : World) (F : List SP) : Prop where
  run : ∀ w, Sat b F w → CW P ro N c Q E ds w
structure SO (P : Program) (ro : Option Nat) (N : Nat) (l rest : List Oper) (Q : Exit → Act → World → Prop) (E : List (Nat × Value)) (ds : List Deferred) (b : World) (F : List SP) : Prop where
  run : ∀ w, Sat b F w → OW P ro N l rest Q E ds w
structure SN (N : Nat) (Q : Exit → Act → World → Prop) (e : Exit) (E : List (Nat × Value)) (ds : List Deferred) (b : World) (F : List SP) : Prop where
  run : ∀ w, Sat b F w → PN N Q e E ds w
structure SD (P : Program) (fl : Oper → Bool) (ro : Option Nat) (N : Nat) (F0 : List SP) (l : List Oper) (k : Nat) (rest : List Oper) (Q : Exit → Act → World → Prop) (E : List (Nat × Value)) (ds : List Deferred) (b : World) (F : List SP) : Prop where
  run : ∀ w, Sat b F w → DW P fl ro N (Sat b F0) l k rest Q E ds w

/-! ## Code -/
theorem sw_seq {x y : Code} (h : SW P ro N x (Then P ro y Q) E ds b F) : SW P ro N (.seq x y) Q E ds b F := ⟨fun w H => cw_seq (h.1 w H)⟩
theorem sn_then {y : Code} (h : SW P ro N y Q E ds b F) : SN N (Then P ro y Q) .normal E ds b F := ⟨fun w H => pn_then (h.1 w H)⟩
theorem sn_then_ret {y : Code} (h : SN N Q .ret E ds b F) : SN N (Then P ro y Q) .ret E ds b F := ⟨fun w H => pn_then_ret (h.1 w H)⟩
theorem sn_then_exit {y : Code} {i : Nat} (h : SN N Q (.exit i) E ds b F) : SN N (Then P ro y Q) (.exit i) E ds b F := ⟨fun w H => pn_then_exit (h.1 w H)⟩
theorem sw_block {x : Code} {i : Nat} (h : SW P ro N x (Exit.inBlock i Q) E ds b F) : SW P ro N (.block i x) Q E ds b F := ⟨fun w H => cw_block (h.1 w H)⟩
theorem sn_block {i : Nat} (h : SN N Q .normal E ds b F) : SN N (Exit.inBlock i Q) .normal E ds b F := ⟨fun w H => pn_block (h.1 w H)⟩
theorem sn_block_ret {i : Nat} (h : SN N Q .ret E ds b F) : SN N (Exit.inBlock i Q) .ret E ds b F := ⟨fun w H => pn_block_ret (h.1 w H)⟩
theorem sn_block_exit {i : Nat} (h : SN N Q .normal E ds b F) : SN N (Exit.inBlock i Q) (.exit i) E ds b F := ⟨fun w H => pn_block_exit (h.1 w H)⟩
theorem sn_block_other {i j : Nat} (hij : Nat.beq j i = false) (h : SN N Q (.exit j) E ds b F) : SN N (Exit.inBlock i Q) (.exit j) E ds b F := ⟨fun w H => pn_block_other hij (h.1 w H)⟩
theorem sw_skip (h : SN N Q .normal E ds b F) : SW P ro N .skip Q E ds b F := ⟨fun w H => cw_skip (h.1 w H)⟩
theorem sw_ret (h : SN N Q .ret E ds b F) : SW P ro N .ret Q E ds b F := ⟨fun w H => cw_ret (h.1 w H)⟩
theorem sw_exit {i : Nat} (h : SN N Q (.exit i) E ds b F) : SW P ro N (.exit i) Q E ds b F := ⟨fun w H => cw_exit (h.1 w H)⟩
theorem sw_cond_t {o : Operand} {x y : Code} (hc : ev E o = some (.bool true)) (h : SW P ro N x Q E ds b F) : SW P ro N (.cond o x y) Q E ds b F := ⟨fun w H => cw_cond_t hc (h.1 w H)⟩
theorem sw_cond_f {o : Operand} {x y : Code} (hc : ev E o = some (.bool false)) (h : SW P ro N y Q E ds b F) : SW P ro N (.cond o x y) Q E ds b F := ⟨fun w H => cw_cond_f hc (h.1 w H)⟩
theorem sw_cond {o : Operand} {x y : Code} {v : Bool} (hc : ev E o = some (.bool v)) (ht : v = true → SW P ro N x Q E ds b F) (hf : v = false → SW P ro N y Q E ds b F) : SW P ro N (.cond o x y) Q E ds b F := ⟨fun w H => cw_cond hc (fun h => (ht h).1 w H) (fun h => (hf h).1 w H)⟩
theorem sw_if {o : Operand} {x y : Code} {p : Prop} [Decidable p] (hc : ev E o = some (.bool (decide p))) (ht : p → SW P ro N x Q E ds b F) (hf : ¬ p → SW P ro N y Q E ds b F) : SW P ro N (.cond o x y) Q E ds b F := ⟨fun w H => cw_if hc (fun h => (ht h).1 w H) (fun h => (hf h).1 w H)⟩
theorem sw_ifn {o : Operand} {x y : Code} {p : Prop} [Decidable p] (hc : ev E o = some (.bool (!decide p))) (ht : ¬ p → SW P ro N x Q E ds b F) (hf : p → SW P ro N y Q E ds b F) : SW P ro N (.cond o x y) Q E ds b F := ⟨fun w H => cw_cond hc (fun h => (ht (by simpa using h)).1 w H) (fun h => (hf (by simpa using h)).1 w H)⟩
theorem sw_region {i : Nat} (h : SO P ro N l l Q E ds b F) : SW P ro N (.region i l.toArray false) Q E ds b F := ⟨fun w H => cw_region (h.1 w H)⟩
theorem so_nil (h : SN N Q .normal E ds b F) : SO P ro N l [] Q E ds b F := ⟨fun w H => ow_nil (h.1 w H)⟩
theorem sw_sub {E' : List (Nat × Value)} (hs : Sub E' E) (h : SW P ro N c Q E' ds b F) : SW P ro N c Q E ds b F := ⟨fun w H => cw_sub hs (h.1 w H)⟩
theorem sw_ent (he : Ent F G) (h : SW P ro N c Q E ds b G) : SW P ro N c Q E ds b F := ⟨fun w H => h.1 w (H.ent he)⟩
theorem so_ent (he : Ent F G) (h : SO P ro N l rest Q E ds b G) : SO P ro N l rest Q E ds b F := ⟨fun w H => h.1 w (H.ent he)⟩
theorem sn_ent (he : Ent F G) (h : SN N Q e E ds b G) : SN N Q e E ds b F := ⟨fun w H => h.1 w (H.ent he)⟩
theorem sw_fact {p : Prop} (hp : ∀ w, Sat b F w → p) (h : p → SW P ro N c Q E ds b F) : SW P ro N c Q E ds b F := ⟨fun w H => (h (hp w H)).1 w H⟩
theorem so_fact {p : Prop} (hp : ∀ w, Sat b F w → p) (h : p → SO P ro N l rest Q E ds b F) : SO P ro N l rest Q E ds b F := ⟨fun w H => (h (hp w H)).1 w H⟩
theorem sn_fact {p : Prop} (hp : ∀ w, Sat b F w → p) (h : p → SN N Q e E ds b F) : SN N Q e E ds b F := ⟨fun w H => (h (hp w H)).1 w H⟩
theorem sw_know (i : Nat) {u : Value} (v : Value) (hl : look E i = some u) (he : u = v) (h : SW P ro N c Q ((i, v) :: E) ds b F) : SW P ro N c Q E ds b F := ⟨fun w H => cw_know i v hl he (h.1 w H)⟩
theorem so_know (i : Nat) {u : Value} (v : Value) (hl : look E i = some u) (he : u = v) (h : SO P ro N l rest Q ((i, v) :: E) ds b F) : SO P ro N l rest Q E ds b F := ⟨fun w H => o_know i v hl he (h.1 w H)⟩
theorem so_if (i : Nat) {p : Prop} [Decidable p] (hl : look E i = some (.bool (decide p))) (ht : p → SO P ro N l rest Q ((i, .bool true) :: E) ds b F) (hf : ¬ p → SO P ro N l rest Q ((i, .bool false) :: E) ds b F) : SO P ro N l rest Q E ds b F := ⟨fun w H => o_if i hl (fun h => (ht h).1 w H) (fun h => (hf h).1 w H)⟩
theorem so_split (i : Nat) {v : Bool} (hl : look E i = some (.bool v)) (ht : v = true → SO P ro N l rest Q ((i, .bool true) :: E) ds b F) (hf : v = false → SO P ro N l rest Q ((i, .bool false) :: E) ds b F) : SO P ro N l rest Q E ds b F := ⟨fun w H => o_split i hl (fun h => (ht h).1 w H) (fun h => (hf h).1 w H)⟩
/-! ## Loops -/
def RndS {G : Type} (N : Nat) (b : World) (Eg : G → List (Nat × Value)) (Fg : G → List SP) (I : G → Prop) (μ : G → Nat) (g : G) (ds : List Deferred) (a' : Act) (w' : World) : Prop :=
  Rnd N Eg (fun g w => Sat b (Fg g) w ∧ I g) μ g ds a' w'
theorem sw_loop {S : Type} (Eg : S → List (Nat × Value)) (Fg : S → List SP) (I : S → Prop) (μ : S → Nat) (g0 : S) (hs : Sub (Eg g0) E) (he : Ent F (Fg g0)) (h0 : I g0)
    (hr : ∀ g, I g → SW P ro N c (Exit.then (RndS N b Eg Fg I μ g ds) Q) (Eg g) ds b (Fg g)) : SW P ro N (.loop c) Q E ds b F := ⟨fun _ H => cw_loop Eg (fun g w => Sat b (Fg g) w ∧ I g) μ ⟨g0, hs, H.ent he, h0⟩ fun g w hJ => (hr g hJ.2).1 w hJ.1⟩
theorem sn_round {S : Type} {Eg : S → List (Nat × Value)} {Fg : S → List SP} {I : S → Prop} {μ : S → Nat} {g : S} (g' : S) (hs : Sub (Eg g') E) (he : Ent F (Fg g')) (hI : I g') (hlt : μ g' < μ g) :
    SN N (Exit.then (RndS N b Eg Fg I μ g ds) Q) .normal E ds b F := ⟨fun _ H => pn_round g' hs ⟨H.ent he, hI⟩ hlt⟩
theorem sn_loop_ret {K : Act → World → Prop} (h : SN N Q .ret E ds b F) : SN N (Exit.then K Q) .ret E ds b F := ⟨fun w H => pn_loop_ret (h.1 w H)⟩
theorem sn_loop_exit {K : Act → World → Prop} {i : Nat} (h : SN N Q (.exit i) E ds b F) : SN N (Exit.then K Q) (.exit i) E ds b F := ⟨fun w H => pn_loop_exit (h.1 w H)⟩
/-- Where ways come together again. -/
def Mid {G : Type} (N : Nat) (b : World) (Eg : G → List (Nat × Value)) (Fg : G → List SP) (I : G → Prop) (ds : List Deferred) (a' : Act) (w' : World) : Prop :=
  ∃ g, Kn N (Eg g) a' ∧ a'.defers = ds ∧ Sat b (Fg g) w' ∧ I g
theorem sw_mid {S : Type} {x y : Code} (Eg : S → List (Nat × Value)) (Fg : S → List SP) (I : S → Prop) (h : SW P ro N x (Exit.then (Mid N b Eg Fg I ds) Q) E ds b F)
    (hy : ∀ g, I g → SW P ro N y Q (Eg g) ds b (Fg g)) : SW P ro N (.seq x y) Q E ds b F := by
  constructor
  intro w H a hk hd
  refine wpIn_seq (Code.wpIn_mono ?_ (h.1 w H a hk hd))
  intro e a' w' hq
  cases e with
  | normal => obtain ⟨g, hk', hd', hs, hI⟩ := hq; exact (hy g hI).1 w' hs a' hk' hd'
  | _ => exact hq
theorem sn_mid {S : Type} {Eg : S → List (Nat × Value)} {Fg : S → List SP} {I : S → Prop} (g : S) (hs : Sub (Eg g) E) (he : Ent F (Fg g)) (hI : I g) :
    SN N (Exit.then (Mid N b Eg Fg I ds) Q) .normal E ds b F := ⟨fun _ H _ hk hd => ⟨g, hk.sub hs, hd, H.ent he, hI⟩⟩
end

theorem run_appendS {P : Program} {tt : Nat → Option TI} [TT P tt] {w : World} {base t ty e n m : Nat} {i : TI} {s1 s2 : Nat} {z1 : Value} {f1 : List (Nat × Nat)} (ht : tt t = some ⟨.slice e, s1, s2, z1, f1⟩) (he : tt e = some i) (hz : i.zero.cells.size = i.size) (hsz : 0 < i.size)
    {v vx : Value} {cs news : List Value} (hown : Oat w base e i.size v n cs) (hx : SL w i.size vx m news) (h1 : ∀ u ∈ news, u.oneCell' = true)
    (h63 : n + m ≤ maxLen) (hbytes : (n + m) * i.bytes ≤ 140737488355328) (hbase : base ≤ w.heap.size) :
    ∃ v' w', (Builtin.append_ #[t, t] ty #[v, vx]).run P w = .ok v' w' ∧ Oat w' base e i.size v' (n + m) (cs ++ news) ∧ Fr (fun k => v.ownBlock = some k) w w' ∧ ∀ k, v'.ownBlock = some k → v.ownBlock = some k ∨ w.heap.size ≤ k := by
  rcases hown.2 with ⟨rfl, rfl⟩ | ⟨g, off, cap, cur, rfl, hbg, hh, hnc, hcm, hcs, htake⟩
  · have hm : Mine w base e i.size (.slice none 0 0) 0 cs := ⟨hown.1, .inl ⟨rfl, rfl⟩⟩
    have hm' : Mine w w.heap.size e i.size (.slice none 0 0) 0 cs := ⟨hown.1, .inl ⟨rfl, rfl⟩⟩
    obtain ⟨v', w', h2, h3, h4⟩ := run_append (P := P) (ty := ty) ht he hz hsz hm' hx h1 h63 hbytes (Nat.le_refl _)
    exact ⟨v', w', h2, (Mine.oat h3).weaken hbase, h4, fun k hk => .inr (Mine.block h3 hk).1⟩
  · obtain ⟨j, hj, h2, h3, h4⟩ := TT.info (P := P) e i he
    have hu := TT.und (P := P) t _ ht rfl
    have hlen : (cs ++ news).length = (n + m) * i.size := by rw [List.length_append, hown.1, hx.choose_spec.choose_spec.2.1, Nat.add_mul]
    obtain ⟨A, c, rfl, hl, hc, hm, hz0, hcell⟩ := hx
    cases A with
    | none =>
      have hm0 : m = 0 := by have := hz0 rfl; omega
      subst hm0
      have hn : news = [] := List.eq_nil_of_length_eq_zero (by simpa using hl)
      subst hn
      refine ⟨_, w, ?_, by simpa using hown, Fr.refl _ w, fun _ hk => .inl hk⟩
      simp [Builtin.append_, run_underlying hu, sizeOf, typeInfo, hj, Builtin.lenOf, Builtin.firstCells, hnc, storeCells]
    | some a =>
      have hnews : ∀ k u, news[k]? = some u → w.cell? (a.add k) = some u := by
        intro k u hk
        have hlt : k < news.length := (List.getElem?_eq_some_iff.1 hk).1
        have hm0 : 0 < m := by
          rcases Nat.eq_zero_or_pos m with h0 | h0
          · subst h0; simp at hl; subst hl; simp at hlt
          · exact h0
        obtain ⟨b, off', hab, hb, hcc⟩ := hcell hm0
        cases hab
        have ha : (⟨b, off', none⟩ : Addr).add k = ⟨b, off' + k, none⟩ := by unfold Addr.add; split <;> simp_all
        rw [ha, hcc k hlt, hk]
      have hsmall : n + m ≤ 9223372036854775807 := by simp only [maxLen] at h63; omega
      by_cases hroom : n + m ≤ cap
      · have hfit : off + n * i.size + 0 + news.length ≤ cur.size := by
          have : (n + m) * i.size ≤ cap * i.size := Nat.mul_le_mul_right _ hroom
          rw [Nat.add_mul] at this
          omega
        have hf := run_firstCells_some (P := P) w i.size m a m c news hl hnews
        have hst := run_storeCells_at P g (off + n * i.size) e news 0 cur w hh hfit h1
        simp only [Nat.add_zero] at hst
        have ha : (⟨g, off, none⟩ : Addr).add (n * i.size) = ⟨g, off + n * i.size, none⟩ := by unfold Addr.add; split <;> simp_all
        obtain ⟨row, hrow⟩ : ∃ row : List Value, row = cur.toList.take (off + n * i.size) ++ news ++ cur.toList.drop (off + n * i.size + news.length) := ⟨_, rfl⟩
        rw [← hrow] at hst
        refine ⟨.slice (some ⟨g, off, none⟩) (n + m) cap, w.setRow g row.toArray, ?_, ⟨hlen, .inr ⟨g, off, cap, row.toArray, rfl, hbg, setRow_heap w g cur _ e _ hh, hroom, hcm, ?_, ?_⟩⟩, (Fr.setRow w g _).mono fun k _ hk => (by simp [Value.ownBlock, hk]), fun _ hk => .inl hk⟩
        · have hn' : ¬ (cap < n + m) := by omega
          simp [Builtin.append_, run_underlying hu, sizeOf, typeInfo, hj, h2, Builtin.lenOf, hroom, hf, ha, hst]
        · subst hrow
          simp only [List.size_toArray, List.length_append, List.length_take, List.length_drop, Array.length_toList]
          omega
        · have e1 : cur.toList.take (off + n * i.size) = cur.toList.take off ++ cs := by
            rw [← htake, List.take_add]
          have hlo : (cur.toList.take off).length = off := by
            rw [List.length_take, Array.length_toList]; omega
          subst hrow
          show ((cur.toList.take (off + n * i.size) ++ news ++ _).drop off).take _ = _
          rw [e1, List.append_assoc, List.append_assoc, List.drop_append_of_le_length (by omega), List.drop_of_length_le (by omega), List.nil_append, ← List.append_assoc, ← hlen]
          exact List.take_left
      · have holds : ∀ k u, cs[k]? = some u → w.cell? ((⟨g, off, none⟩ : Addr).add k) = some u := by
          intro k u hk
          have hlt : k < cs.length := (List.getElem?_eq_some_iff.1 hk).1
          have ha : (⟨g, off, none⟩ : Addr).add k = ⟨g, off + k, none⟩ := by unfold Addr.add; split <;> simp_all
          rw [ha, cell_of_row w g (off + k) cur e (0, 0) hh, ← hk, ← htake, List.getElem?_take, if_pos (by rw [← hown.1]; exact hlt), List.getElem?_drop]
          simp
        have hr := run_append_grow (P := P) w t ty e j i.zero hu hj h4 ⟨g, off, none⟩ n cap cs (by rw [h2]; exact hown.1) holds a m c news (by rw [h2]; exact hl) hnews (by omega) (by omega) (growslice_fits (by omega) (by rw [h3]; exact hbytes))
        refine ⟨_, _, hr, ⟨hlen, .inr ⟨w.heap.size, 0, _, _, rfl, hbase, heap_alloc_new w.drew _, grownCap_ge w (n + m) cap e, grownCap_le_maxLen w (n + m) cap e h63, ?_, ?_⟩⟩, (Fr.drew w).trans (Fr.alloc _ _), fun k hk => .inr (by simp only [Value.ownBlock, Option.some.injEq] at hk; omega)⟩
        · have hge := grownCap_ge w (n + m) cap e
          simp only [Array.size_append, List.size_toArray, size_zeroCells, hz, hown.1, hl, ← Nat.add_mul, Nat.zero_add]
          apply Nat.le_of_eq
          congr 1
          omega
        · simp only [Array.toList_append, List.append_assoc, List.drop_zero]
          rw [← List.append_assoc, ← hlen]
          exact List.take_left

/-! ## Operations -/
section
variable {P : Program} {tt : Nat → Option TI} [TT P tt] {ro : Option Nat} {N : Nat} {l rest : List Oper} {Q : Exit → Act → World → Prop} {E : List (Nat × Value)} {ds : List Deferred} {b : World} {F G : List SP}
  {d : Nat} {op : Op} {ty : TypeId} {pos : String} {aft : Array Edge} {g : Option (Nat × Bool)} {v : Value}
theorem so_skip (hg : wants l E g = some false) (hd : Nat.blt d N = true) (h : SO P ro N l rest Q ((d, undef) :: E) ds b F) : SO P ro N l (⟨some d, op, ty, pos, aft, g⟩ :: rest) Q E ds b F := ⟨fun w H => ow_skip hg hd (h.1 w H)⟩
theorem so_pu (hg : wants l E g = some true) (hx : Pu P E op ty v) (hd : Nat.blt d N = true) (h : SO P ro N l rest Q ((d, v) :: E) ds b F) : SO P ro N l (⟨some d, op, ty, pos, aft, g⟩ :: rest) Q E ds b F := ⟨fun w H => ow_pu hg hx hd (h.1 w H)⟩
theorem so_p (hg : wants l E g = some true) (hx : pev tt E op = some v) (hd : Nat.blt d N = true) (h : SO P ro N l rest Q ((d, v) :: E) ds b F) : SO P ro N l (⟨some d, op, ty, pos, aft, g⟩ :: rest) Q E ds b F :=
  so_pu hg (pev_sound hx) hd h
theorem so_c {c : Prop} (hg : wants l E g = some true) (hx : pevc tt E op = some (c, v)) (hd : Nat.blt d N = true) (hc : c) (h : SO P ro N l rest Q ((d, v) :: E) ds b F) :
    SO P ro N l (⟨some d, op, ty, pos, aft, g⟩ :: rest) Q E ds b F := so_pu hg (pevc_sound hx hc) hd h
theorem so_w (hg : wants l E g = some true) (hx : pevw E op = some v) (hd : Nat.blt d N = true) (h : SO P ro N l rest Q ((d, v) :: E) ds b F) : SO P ro N l (⟨some d, op, ty, pos, aft, g⟩ :: rest) Q E ds b F :=
  so_pu hg (pevw_sound hx) hd h
theorem so_b (hg : wants l E g = some true) (hx : pevb tt E op = some v) (hd : Nat.blt d N = true) (h : SO P ro N l rest Q ((d, v) :: E) ds b F) : SO P ro N l (⟨some d, op, ty, pos, aft, g⟩ :: rest) Q E ds b F :=
  so_pu hg (pevb_sound hx) hd h
theorem so_n (hg : wants l E g = some true) (hx : pevn tt E op = some v) (hd : Nat.blt d N = true) (h : SO P ro N l rest Q ((d, v) :: E) ds b F) : SO P ro N l (⟨some d, op, ty, pos, aft, g⟩ :: rest) Q E ds b F :=
  so_pu hg (pevn_sound hx) hd h
theorem so_ix (k : Nat) {b' o n s : Nat} {i : Int} (hg : wants l E g = some true) (hx : ixv tt E op = some (b', o, n, i, s)) (hd : Nat.blt d N = true) (hi : i = (k : Int)) (hk : k < n)
    (h : SO P ro N l rest Q ((d, .pointer (some ⟨b', o + mulz k s, none⟩)) :: E) ds b F) : SO P ro N l (⟨some d, op, ty, pos, aft, g⟩ :: rest) Q E ds b F := so_pu hg (ixv_sound hx hi hk) hd h
/-- What reads. -/
theorem so_rd (hg : wants l E g = some true) (hx : ∀ w, Sat b F w → Ex P E op ty w v w) (hd : Nat.blt d N = true) (h : SO P ro N l rest Q ((d, v) :: E) ds b F) : SO P ro N l (⟨some d, op, ty, pos, aft, g⟩ :: rest) Q E ds b F := ⟨fun w H => ow_ex hg (hx w H) hd (h.1 w H)⟩
/-- A segment of cells. -/
def segO : List Value → Nat → Nat → Option (List Value)
  | _, 0, 0 => some []
  | [], _, _ => none
  | c :: cs, 0, n + 1 => match segO cs 0 n with
    | some r => some (c :: r)
    | none => none
  | _ :: cs, o + 1, n => segO cs o n
theorem segO_get {cs vs : List Value} {o n : Nat} (h : segO cs o n = some vs) : vs.length = n ∧ ∀ j, j < n → cs[o + j]? = vs[j]? := by
  induction cs generalizing o n vs with
  | nil =>
    cases o <;> cases n <;> simp [segO] at h
    subst h; simp
  | cons c cs ih =>
    cases o with
    | zero =>
      cases n with
      | zero => simp [segO] at h; subst h; simp
      | succ n =>
        simp only [segO] at h
        split at h
        · rename_i r hr
          simp only [Option.some.injEq] at h
          subst h
          obtain ⟨h1, h2⟩ := ih hr
          refine ⟨by simp [h1], fun j hj => ?_⟩
          cases j with
          | zero => simp
          | succ j => have := h2 j (by omega); simpa using this
        · cases h
    | succ o =>
      have h' : segO cs o n = some vs := by cases n <;> simpa only [segO] using h
      obtain ⟨h1, h2⟩ := ih h'
      refine ⟨h1, fun j hj => ?_⟩
      have := h2 j hj
      rw [show o + 1 + j = (o + j) + 1 from by omega]
      simpa using this
theorem ex_ld {t g' t0 off : Nat} {x : Operand} {i : TI} {cs : List Value} (k : Nat) (ht : tt t = some i) (hagg : aggT i.desc = false) (hx : ev E x = some (.pointer (some ⟨g', off, none⟩))) (hF : nth F k = some (pt g' t0 cs)) (hv : nth cs off = some v) :
    ∀ w, Sat b F w → Ex P E (.load t x) ty w v w := fun w H => ex_load ht hagg hx (by rw [(H.blk hF).cell off, ← nth_eq]; exact hv)
theorem ex_ldA {t g' t0 off : Nat} {x : Operand} {i : TI} {cs vs : List Value} (k : Nat) (ht : tt t = some i) (hagg : aggT i.desc = true) (hx : ev E x = some (.pointer (some ⟨g', off, none⟩))) (hF : nth F k = some (pt g' t0 cs)) (hv : segO cs off i.size = some vs) :
    ∀ w, Sat b F w → Ex P E (.load t x) ty w (.agg ⟨vs⟩) w := fun w H => by
  obtain ⟨h1, h2⟩ := segO_get hv
  exact ex_loadN ht hagg hx h1 (fun j hj => by rw [(H.blk hF).cell]; exact h2 j (by omega))
theorem so_ld {t g' t0 off : Nat} {x : Operand} {i : TI} {cs : List Value} (k : Nat) (hg : wants l E g = some true) (hop : op = .load t x) (ht : tt t = some i) (hagg : aggT i.desc = false) (hx : ev E x = some (.pointer (some ⟨g', off, none⟩))) (hF : nth F k = some (pt g' t0 cs)) (hv : nth cs off = some v)
    (hd : Nat.blt d N = true) (h : SO P ro N l rest Q ((d, v) :: E) ds b F) : SO P ro N l (⟨some d, op, ty, pos, aft, g⟩ :: rest) Q E ds b F := by
  subst hop; exact so_rd hg (ex_ld k ht hagg hx hF hv) hd h
theorem so_ldA {t g' t0 off : Nat} {x : Operand} {i : TI} {cs vs : List Value} (k : Nat) (hg : wants l E g = some true) (hop : op = .load t x) (ht : tt t = some i) (hagg : aggT i.desc = true) (hx : ev E x = some (.pointer (some ⟨g', off, none⟩))) (hF : nth F k = some (pt g' t0 cs)) (hv : segO cs off i.size = some vs)
    (hd : Nat.blt d N = true) (h : SO P ro N l rest Q ((d, .agg ⟨vs⟩) :: E) ds b F) : SO P ro N l (⟨some d, op, ty, pos, aft, g⟩ :: rest) Q E ds b F := by
  subst hop; exact so_rd hg (ex_ldA k ht hagg hx hF hv) hd h
/-- What writes. -/
def stO : List Value → Nat → Value → Option (List Value)
  | [], _, _ => none
  | _ :: cs, 0, v => some (v :: cs)
  | c :: cs, o + 1, v => match stO cs o v with
    | some r => some (c :: r)
    | none => none
theorem stO_set {cs r : List Value} {o : Nat} {v : Value} (h : stO cs o v = some r) : r = cs.set o v ∧ o < cs.length := by
  induction cs generalizing o r with
  | nil => simp [stO] at h
  | cons c cs ih =>
    cases o with
    | zero => simp [stO] at h; subst h; simp
    | succ o =>
      simp only [stO] at h
      split at h
      · rename_i r' hr
        simp only [Option.some.injEq] at h
        subst h
        obtain ⟨rfl, h2⟩ := ih hr
        simp; exact h2
      · cases h
theorem so_wr {w1 : World → World → Prop} (hg : wants l E g = some true) (hx : ∀ w, Sat b F w → ∃ w', Eu P E op ty w w' ∧ Sat b G w') (h : SO P ro N l rest Q E ds b G) :
    SO P ro N l (⟨none, op, ty, pos, aft, g⟩ :: rest) Q E ds b F := ⟨fun w H => by
  obtain ⟨w', h1, h2⟩ := hx w H
  exact ow_eu hg h1 (h.1 w' h2)⟩
theorem eu_st {t g' t0 off : Nat} {x y : Operand} {i : TI} {cs cs' : List Value} (k : Nat) (ht : tt t = some i) (hs : i.size = 1) (hx : ev E x = some (.pointer (some ⟨g', off, none⟩))) (hy : ev E y = some v) (hv : v.oneCell' = true) (hF : nth F k = some (pt g' t0 cs))
    (hc : stO cs off v = some cs') (hG : setF F k (pt g' t0 cs') = some G) : ∀ w, Sat b F w → ∃ w', Eu P E (.store t x y) ty w w' ∧ Sat b G w' := fun w H => by
  obtain ⟨rfl, hlt⟩ := stO_set hc
  have B := H.blk hF
  exact ⟨_, eu_store ht hs hx hy hv (u := cs[off]) (by rw [B.cell off]; exact List.getElem?_eq_getElem hlt) (B.frozen off), H.write hF (Fr.setCell w ⟨g', off, none⟩ v) (B.set off v) hG⟩
theorem so_st {t g' t0 off : Nat} {x y : Operand} {i : TI} {cs cs' : List Value} (k : Nat) (hg : wants l E g = some true) (hop : op = .store t x y) (ht : tt t = some i) (hs : i.size = 1) (hx : ev E x = some (.pointer (some ⟨g', off, none⟩))) (hy : ev E y = some v) (hv : v.oneCell' = true) (hF : nth F k = some (pt g' t0 cs))
    (hc : stO cs off v = some cs') (hG : setF F k (pt g' t0 cs') = some G) (h : SO P ro N l rest Q E ds b G) : SO P ro N l (⟨none, op, ty, pos, aft, g⟩ :: rest) Q E ds b F := by
  subst hop; exact so_wr (w1 := fun _ _ => True) hg (eu_st k ht hs hx hy hv hF hc hG) h
/-- Several cells at once. -/
def splO : List Value → Nat → List Value → Option (List Value)
  | cs, 0, [] => some cs
  | [], _, _ => none
  | _ :: cs, 0, v :: vs => match splO cs 0 vs with
    | some r => some (v :: r)
    | none => none
  | c :: cs, o + 1, vs => match splO cs o vs with
    | some r => some (c :: r)
    | none => none
theorem splO_spl {cs vs r : List Value} {o : Nat} (h : splO cs o vs = some r) : r = spl cs o vs ∧ o + vs.length ≤ cs.length := by
  induction cs generalizing o vs r with
  | nil => cases o <;> cases vs <;> simp [splO] at h; subst h; simp [spl]
  | cons c cs ih =>
    cases o with
    | zero =>
      cases vs with
      | nil => simp [splO] at h; subst h; simp [spl]
      | cons v vs =>
        simp only [splO] at h
        split at h
        · rename_i r' hr
          simp only [Option.some.injEq] at h
          subst h
          obtain ⟨rfl, h2⟩ := ih hr
          refine ⟨by simp [spl], by simp; omega⟩
        · cases h
    | succ o =>
      have h' : (match splO cs o vs with | some r => some (c :: r) | none => none) = some r := by cases vs <;> simpa only [splO] using h
      split at h'
      · rename_i r' hr
        simp only [Option.some.injEq] at h'
        subst h'
        obtain ⟨rfl, h2⟩ := ih hr
        refine ⟨?_, by simp; omega⟩
        simp only [spl, List.take_succ_cons, List.cons_append]
        rw [show o + 1 + vs.length = (o + vs.length) + 1 from by omega, List.drop_succ_cons]
      · cases h'
def vcells : Value → List Value
  | .agg ⟨cs⟩ => cs
  | v => [v]
theorem vcells_eq (v : Value) : v.cells.toList = vcells v := by cases v <;> rfl
def zlist : Value → Option (List Value)
  | .agg ⟨cs⟩ => some cs
  | v => some [v]
theorem zlist_eq {v : Value} {cs : List Value} (h : zlist v = some cs) : v.cells.toList = cs := by
  cases v <;> simp [zlist] at h <;> first | (subst h; rfl) | (obtain rfl := h; rfl)
theorem eu_stA {t g' t0 off : Nat} {x y : Operand} {i : TI} {cs vs cs' : List Value} (k : Nat) (ht : tt t = some i) (hx : ev E x = some (.pointer (some ⟨g', off, none⟩))) (hy : ev E y = some v) (hz : zlist v = some vs) (hs : Nat.beq vs.length i.size = true) (hv : vs.all (·.oneCell') = true) (hF : nth F k = some (pt g' t0 cs))
    (hc : splO cs off vs = some cs') (hG : setF F k (pt g' t0 cs') = some G) : ∀ w, Sat b F w → ∃ w', Eu P E (.store t x y) ty w w' ∧ Sat b G w' := fun w H => by
  obtain ⟨rfl, hlt⟩ := splO_spl hc
  have B := H.blk hF
  exact ⟨_, eu_storeB (vs := vs) ht hx hy (zlist_eq hz) hs (fun u hu => List.all_eq_true.1 hv u hu) B (Nat.ble_eq_true_of_le hlt), H.write hF (Fr.setRow _ _ _) B.setRow hG⟩
theorem so_stA {t g' t0 off : Nat} {x y : Operand} {i : TI} {cs vs cs' : List Value} (k : Nat) (hg : wants l E g = some true) (hop : op = .store t x y) (ht : tt t = some i) (hx : ev E x = some (.pointer (some ⟨g', off, none⟩))) (hy : ev E y = some v) (hz : zlist v = some vs) (hs : Nat.beq vs.length i.size = true) (hv : vs.all (·.oneCell') = true) (hF : nth F k = some (pt g' t0 cs))
    (hc : splO cs off vs = some cs') (hG : setF F k (pt g' t0 cs') = some G) (h : SO P ro N l rest Q E ds b G) : SO P ro N l (⟨none, op, ty, pos, aft, g⟩ :: rest) Q E ds b F := by
  subst hop; exact so_wr (w1 := fun _ _ => True) hg (eu_stA k ht hx hy hz hs hv hF hc hG) h
/-- A whole block is written over. -/
theorem so_stW {t g' t0 : Nat} {x y : Operand} {i : TI} {cs vs : List Value} (k : Nat) (hg : wants l E g = some true) (hop : op = .store t x y) (ht : tt t = some i) (hx : ev E x = some (.pointer (some ⟨g', 0, none⟩))) (hy : ev E y = some (.agg ⟨vs⟩)) (hF : nth F k = some (pt g' t0 cs)) (hG : setF F k (pt g' t0 vs) = some G)
    (hs : vs.length = i.size) (hv : ∀ u ∈ vs, u.oneCell' = true) (hc : vs.length = cs.length) (h : SO P ro N l rest Q E ds b G) : SO P ro N l (⟨none, op, ty, pos, aft, g⟩ :: rest) Q E ds b F := by
  subst hop
  refine so_wr (w1 := fun _ _ => True) hg (fun w H => ?_) h
  have B := H.blk hF
  exact ⟨_, eu_storeW (vs := vs) ht hx hy rfl (by rw [hs]; exact Nat.beq_refl _) hv B hc, H.write hF (Fr.setRow _ _ _) B.setRow hG⟩
/-- New blocks. -/
theorem so_new {t : Nat} {i : TI} {zs : List Value} (hg : wants l E g = some true) (hop : op = .alloc t) (ht : tt t = some i) (hz : zlist i.zero = some zs) (hd : Nat.blt d N = true)
    (h : ∀ g', SO P ro N l rest Q ((d, .pointer (some ⟨g', 0, none⟩)) :: E) ds b (pt g' t zs :: F)) : SO P ro N l (⟨some d, op, ty, pos, aft, g⟩ :: rest) Q E ds b F := ⟨fun w H => by
  refine ow_new hg hop ht hd fun w' B x _ => (h w.heap.size).1 w' ?_
  rw [zlist_eq hz] at B
  exact H.alloc x B (Nat.le_refl _)⟩
theorem so_box {t : Nat} {x : Operand} {cs : List Value} (hg : wants l E g = some true) (hop : op = .box t x) (hx : ev E x = some v) (hz : zlist v = some cs) (hd : Nat.blt d N = true)
    (h : ∀ g', SO P ro N l rest Q ((d, .pointer (some ⟨g', 0, none⟩)) :: E) ds b (pt g' t cs :: F)) : SO P ro N l (⟨some d, op, ty, pos, aft, g⟩ :: rest) Q E ds b F := ⟨fun w H => by
  refine ow_box hg hop hx hd fun w' B x _ => (h w.heap.size).1 w' ?_
  rw [zlist_eq hz] at B
  exact H.alloc x B (Nat.le_refl _)⟩
/-- A slice literal. -/
theorem so_lit (us : List Value) {t len e s1 s2 : Nat} {z1 : Value} {f1 : List (Nat × Nat)} {i : TI} {parts : List (Nat × Operand)} (hg : wants l E g = some true) (hop : op = .buildSlice t len ⟨parts⟩)
    (ht : tt t = some ⟨.slice e, s1, s2, z1, f1⟩) (he : tt e = some i) (hi : Nat.beq i.size 1 = true) (hp : evp E parts = some (enum 0 us)) (hl : (Nat.beq len us.length && Nat.ble len 16777216) = true) (h1 : us.all (·.oneCell') = true) (hd : Nat.blt d N = true)
    (h : ∀ g', SO P ro N l rest Q ((d, .slice (some ⟨g', 0, none⟩) len len) :: E) ds b (pt g' e us :: F)) : SO P ro N l (⟨some d, op, ty, pos, aft, g⟩ :: rest) Q E ds b F := ⟨fun w H =>
  ow_lit us hg hop ht he hi hp hl h1 hd fun w' B x => (h w.heap.size).1 w' (H.alloc x B (Nat.le_refl _))⟩
/-- What is appended to a row of its own. -/
theorem so_append {t e n m sz s1 s2 : Nat} {z1 : Value} {f1 : List (Nat × Nat)} {i : TI} {x y : Operand} {vx : Value} {cs news : List Value} (k : Nat) (hg : wants l E g = some true) (hd : Nat.blt d N = true)
    (hop : op = .call ⟨.builtin .append, ⟨[x, y]⟩, ⟨[t, t]⟩⟩) (ht : tt t = some ⟨.slice e, s1, s2, z1, f1⟩) (he : tt e = some i) (hi : (Nat.beq i.zero.cells.size sz && Nat.beq i.size sz && Nat.ble i.bytes 2097152 && Nat.blt 0 sz) = true)
    (hx : ev E x = some v) (hy : ev E y = some vx) (hF : nth F k = some (row e sz v n cs)) (hsl : ∀ w, Sat b F w → SL w sz vx m news) (h1 : ∀ u ∈ news, u.oneCell' = true) (hn : n + m ≤ 67108864) {Gf : Value → List SP} (hG : ∀ v', setF F k (row e sz v' (n + m) (cs ++ news)) = some (Gf v'))
    (h : ∀ v', SO P ro N l rest Q ((d, v') :: E) ds b (Gf v')) : SO P ro N l (⟨some d, op, ty, pos, aft, g⟩ :: rest) Q E ds b F := by
  have hi' := hi
  simp only [Bool.and_eq_true] at hi'
  obtain ⟨⟨⟨h1', h2'⟩, h3'⟩, h4'⟩ := hi'
  have e1 := Nat.eq_of_beq_eq_true h1'; have e2 := Nat.eq_of_beq_eq_true h2'; have e3 := Nat.le_of_ble_eq_true h3'; have e4 : 0 < sz := Nat.le_of_ble_eq_true h4'
  subst e2
  constructor
  intro w H
  subst hop
  have hbytes : (n + m) * i.bytes ≤ 140737488355328 := Nat.le_trans (Nat.mul_le_mul hn e3) (by decide)
  obtain ⟨v', w', hrun, ho, hf, hnb⟩ := run_appendS (P := P) (ty := ty) ht he e1 e4 (H.oat hF) (hsl w H) h1 (by unfold maxLen; omega) hbytes (Nat.zero_le _)
  refine ow_ex hg ?_ hd ((h v').1 w' ?_)
  · intro ρ o hρ hop' hty
    subst hty
    simp only [execOp, hop', resolve, invoke, builtin, Sem.run_bind, Sem.run_pure, Result.andThen]
    have e1 : Array.map ρ #[x, y] = #[v, vx] := by simp [hρ _ _ hx, hρ _ _ hy]
    simp only [e1, hrun]
  · obtain ⟨h3, l3, hA, hn3⟩ := oat_row ho
    refine H.upd k hF hf (fun h4 l4 hA4 => ?_) (hG v')
    have key : ∀ q, v.ownBlock = some q → h4 q ≠ none := by
      intro q hq
      rcases hA4.2 with ⟨rfl, _⟩ | ⟨g5, off5, cap5, cur5, rfl, hh5, _⟩
      · cases hq
      · simp only [Value.ownBlock, Option.some.injEq] at hq
        subst hq; rw [hh5]; simp
    exact ⟨fun q _ hq => key q hq, h3, l3, hA, fun q hq => (hnb q (hn3 q hq).2).imp (key q) id⟩
/-- A row of its own is stored into. -/
theorem eu_strow {t g' off e sz n cap o : Nat} {x y : Operand} {i : TI} {cs vs cs' : List Value} (k : Nat) (ht : tt t = some i) (hx : ev E x = some (.pointer (some ⟨g', off, none⟩))) (hy : ev E y = some v) (hz : zlist v = some vs) (hs : Nat.beq vs.length i.size = true) (hv : ∀ u ∈ vs, u.oneCell' = true)
    {o0 : Nat} (hF : nth F k = some (row e sz (.slice (some ⟨g', o0, none⟩) n cap) n cs)) (ho : off = o0 + o) (hfit : o + vs.length ≤ cs.length) (hc : spl cs o vs = cs') (hG : setF F k (row e sz (.slice (some ⟨g', o0, none⟩) n cap) n cs') = some G) : ∀ w, Sat b F w → ∃ w', Eu P E (.store t x y) ty w w' ∧ Sat b G w' := fun w H => by
  subst hc
  subst ho
  have hO := H.oat hF
  rcases hO with ⟨hl, ⟨hv0, h0⟩ | ⟨g2, off2, cap2, cur, hv0, _, hh, hnc, hcm, hcs, htk⟩⟩
  · cases hv0
  simp only [Value.slice.injEq, Option.some.injEq, Addr.mk.injEq, true_and, and_true] at hv0
  obtain ⟨⟨rfl, rfl⟩, rfl⟩ := hv0
  have hle : n * sz ≤ cap * sz := Nat.mul_le_mul_right _ hnc
  have hfit2 : o0 + o + vs.length ≤ cur.size := by omega
  refine ⟨_, eu_storeRow (vs := vs) ht hx hy (zlist_eq hz) hs hv hh hfit2, ?_⟩
  refine H.upd k hF (Fr.setRow w g' _) (fun h4 l4 hA4 => ?_) hG
  have h4g : h4 g' = some (.cells cur e (0, 0)) := by
    rcases hA4.2 with ⟨hv4, _⟩ | ⟨g5, off5, cap5, cur5, hv5, hh5, _⟩
    · cases hv4
    · simp only [Value.slice.injEq, Option.some.injEq, Addr.mk.injEq] at hv5
      obtain ⟨⟨rfl, _⟩, _⟩ := hv5
      have := (l4 _ _ hh5).symm.trans hh
      rw [hh5]; exact this
  refine ⟨fun q _ hq => by subst hq; rw [h4g]; simp, _, one_le (h := ph _) (setRow_heap w g' cur _ e _ hh), ⟨by rw [spl_length hfit]; exact hl, .inr ⟨g', o0, cap, _, rfl, one_at g' _, hnc, hcm, ?_, ?_⟩⟩, fun q hq => .inl (by rw [one_ne hq, h4g]; simp)⟩
  · rw [List.size_toArray, spl_length (by rw [Array.length_toList]; omega), Array.length_toList]; exact hcs
  · have e1 : cs = (cur.toList.drop o0).take (n * sz) := htk.symm
    apply List.ext_getElem?
    intro j
    have hcl : cur.toList.length = cur.size := Array.length_toList
    simp only [spl, List.getElem?_take, List.getElem?_drop, List.getElem?_append, List.length_take, List.length_append, List.length_drop, e1]
    simp only [hcl]
    by_cases h1 : j < n * sz
    · rw [if_pos h1]
      by_cases h2 : j < o
      · rw [if_pos (by omega), if_pos (by omega), if_pos (by omega), if_pos h2, if_pos h1]
      · by_cases h3 : j - o < vs.length
        · rw [if_neg (by omega), if_pos (by omega), if_neg (by omega), if_pos (by omega)]
          congr 1; omega
        · rw [if_neg (by omega), if_neg (by omega), if_neg (by omega), if_neg (by omega), if_pos (by omega)]
          congr 1; omega
    · rw [if_neg h1, if_neg (by omega), if_neg (by omega), if_neg (by omega)]
theorem so_strow {t g' off e sz n cap : Nat} {x y : Operand} {i : TI} {cs vs cs' : List Value} (k o : Nat) (hg : wants l E g = some true) (hop : op = .store t x y) (ht : tt t = some i) (hx : ev E x = some (.pointer (some ⟨g', off, none⟩))) (hy : ev E y = some v) (hz : zlist v = some vs) (hs : Nat.beq vs.length i.size = true)
    {o0 : Nat} (hF : nth F k = some (row e sz (.slice (some ⟨g', o0, none⟩) n cap) n cs)) (hc : spl cs o vs = cs') (hG : setF F k (row e sz (.slice (some ⟨g', o0, none⟩) n cap) n cs') = some G) (ho : off = o0 + o) (hfit : o + vs.length ≤ cs.length) (hv : ∀ u ∈ vs, u.oneCell' = true) (h : SO P ro N l rest Q E ds b G) : SO P ro N l (⟨none, op, ty, pos, aft, g⟩ :: rest) Q E ds b F := by
  subst hop; exact so_wr (w1 := fun _ _ => True) hg (eu_strow k ht hx hy hz hs hv hF ho hfit hc hG) h
end

/-! ## Calls -/
section
variable {P : Program} {b : World} {F G : List SP} {f : FuncId} {args : List Value}
def PostS (b : World) (R : Value → List SP → Prop) : Ending → World → Prop := fun e w' => ∃ v F', e = .returned v ∧ R v F' ∧ Sat b F' w'
/-- What a call owes. -/
def SC (P : Program) (f : FuncId) (args : List Value) (b : World) (F : List SP) (R : Value → List SP → Prop) : Prop := ∀ w, Sat b F w → Calls P f args.toArray w (PostS b R)
theorem SC.ent {R : Value → List SP → Prop} (h : SC P f args b G R) (he : Ent F G) : SC P f args b F R := fun w H => h w (H.ent he)
theorem SC.mono {R R' : Value → List SP → Prop} (h : SC P f args b F R) (hr : ∀ v F', R v F' → R' v F') : SC P f args b F R' := fun w H => (h w H).mono fun _ _ ⟨v, F', h1, h2, h3⟩ => ⟨v, F', h1, hr v F' h2, h3⟩
/-- What only reads. -/
theorem SC.ofExt {v : Value} (h : ∀ w, Sat b F w → Calls P f args.toArray w fun e w' => e = .returned v ∧ Ext w w') : SC P f args b F (fun u F' => u = v ∧ F' = F) :=
  fun w H => (h w H).mono fun _ _ ⟨h1, h2⟩ => ⟨v, F, h1, ⟨rfl, rfl⟩, H.ext h2⟩
theorem SC.ofEq {v : Value} (h : ∀ w, Sat b F w → Calls P f args.toArray w fun e w' => e = .returned v ∧ w = w') : SC P f args b F (fun u F' => u = v ∧ F' = F) :=
  fun w H => (h w H).mono fun _ _ ⟨h1, h2⟩ => ⟨v, F, h1, ⟨rfl, rfl⟩, h2 ▸ H⟩
/-- What makes a row. -/
theorem SC.ofMade {e sz n : Nat} {cs : List Value} (h : ∀ w, Sat b F w → Calls P f args.toArray w fun e' w' => ∃ v, e' = .returned v ∧ Mine w' w.heap.size e sz v n cs ∧ Ext w w') : SC P f args b F (fun u F' => F' = row e sz u n cs :: F) :=
  fun w H => (h w H).mono fun _ _ ⟨v, h1, h2, h3⟩ => ⟨v, _, h1, rfl, H.newOat h3 (Mine.oat h2)⟩
end
section
variable {P : Program} {ro : Option Nat} {N : Nat} {l rest : List Oper} {Q : Exit → Act → World → Prop} {E : List (Nat × Value)} {ds : List Deferred} {b : World} {F G : List SP}
  {d : Nat} {op : Op} {ty : TypeId} {pos : String} {aft : Array Edge} {g : Option (Nat × Bool)} {v : Value}
theorem so_call {f : FuncId} {args : List Value} {R : Value → List SP → Prop} (hg : wants l E g = some true) (hx : callOf E op = some (f, args)) [hb : Bodied P f] (hd : Nat.blt d N = true) (hs : SC P f args b F R)
    (h : ∀ v F', R v F' → SO P ro N l rest Q ((d, v) :: E) ds b F') : SO P ro N l (⟨some d, op, ty, pos, aft, g⟩ :: rest) Q E ds b F := ⟨fun w H => ow_call hg (ec_call hx) hd ((hs w H).mono fun _ _ ⟨v, F', h1, h2, h3⟩ => ⟨v, h1, (h v F' h2).1 _ h3⟩)⟩
theorem so_callE {f : FuncId} {args : List Value} (hg : wants l E g = some true) (hx : callOf E op = some (f, args)) [hb : Bodied P f] (hd : Nat.blt d N = true) (hs : SC P f args b F (fun u F' => u = v ∧ F' = F))
    (h : SO P ro N l rest Q ((d, v) :: E) ds b F) : SO P ro N l (⟨some d, op, ty, pos, aft, g⟩ :: rest) Q E ds b F :=
  so_call hg hx hd hs fun _ _ ⟨h1, h2⟩ => by subst h1; subst h2; exact h
end

/-! ## A function is entered and left -/
section
variable {P : Program} {tt : Nat → Option TI} [TT P tt] {N : Nat} {E : List (Nat × Value)} {b : World} {F G : List SP} {fn : Func} {R : Value → List SP → Prop} {f : FuncId} {c : Code} {args : List Value}
theorem enterS (hf : P.funcs[f]? = some fn) (hb : fn.body = some c) (hn : Nat.ble args.length fn.ntmps = true) {E : List (Nat × Value)} (hE : ents 0 args = E) (h : SW P none fn.ntmps c (bodyPost P fn (PostS b R)) E [] b F) : SC P f args b F R :=
  fun w H => enter hf hb hn (by rw [hE]; exact h.1 w H)
/-- What a list of results reads as. -/
inductive Res (tt : Nat → Option TI) (E : List (Nat × Value)) (F : List SP) : List ResultVar → List Value → Prop
  | nil : Res tt E F [] []
  | tmp {t : Nat} {v : Value} {rs : List ResultVar} {vs : List Value} (hv : look E t = some v) (h : Res tt E F rs vs) : Res tt E F (.tmp t :: rs) (v :: vs)
  | agg {t ct g t0 : Nat} {i : TI} {cs us : List Value} {rs : List ResultVar} {vs : List Value} (k : Nat) (hv : look E t = some (.pointer (some ⟨g, 0, none⟩))) (hF : nth F k = some (pt g t0 cs)) (ht : tt ct = some i) (hagg : aggT i.desc = true)
      (hs : segO cs 0 i.size = some us) (h : Res tt E F rs vs) : Res tt E F (.cell t ct :: rs) (.agg ⟨us⟩ :: vs)
  | whole {t ct g t0 : Nat} {i : TI} {cs : List Value} {rs : List ResultVar} {vs : List Value} (k : Nat) (hv : look E t = some (.pointer (some ⟨g, 0, none⟩))) (hF : nth F k = some (pt g t0 cs)) (ht : tt ct = some i) (hagg : aggT i.desc = true)
      (hs : cs.length = i.size) (h : Res tt E F rs vs) : Res tt E F (.cell t ct :: rs) (.agg ⟨cs⟩ :: vs)
  | cell {t ct g t0 : Nat} {i : TI} {cs : List Value} {v : Value} {rs : List ResultVar} {vs : List Value} (k : Nat) (hv : look E t = some (.pointer (some ⟨g, 0, none⟩))) (hF : nth F k = some (pt g t0 cs)) (ht : tt ct = some i) (hagg : aggT i.desc = false)
      (hs : nth cs 0 = some v) (h : Res tt E F rs vs) : Res tt E F (.cell t ct :: rs) (v :: vs)
def tupl : List Value → Value
  | [v] => v
  | vs => .tuple ⟨vs⟩
def rsem (tmps : Array Value) : ResultVar → Sem Value
  | .tmp t => pure (tmps.getD t undef)
  | .cell x t => do loadVar t (← asAddr (tmps.getD x undef))
theorem rsem_cell {a : Act} {t ct g : Nat} {u : Value} {w : World} (hv : a.tmps[t]? = some (.pointer (some ⟨g, 0, none⟩))) (h : (loadVar ct ⟨g, 0, none⟩).run P w = .ok u w) : (rsem a.tmps (.cell t ct)).run P w = .ok u w := by
  simp only [rsem, Array.getD_eq_getD_getElem?, hv, Option.getD_some, asAddr, Sem.run_bind, Sem.run_pure, Result.andThen, h]
theorem Res.run (P : Program) [TT P tt] {rs : List ResultVar} {vs : List Value} (h : Res tt E F rs vs) {w : World} (H : Sat b F w) {a : Act} (hk : Kn N E a) :
    (rs.mapM (rsem a.tmps)).run P w = .ok vs w := by
  have key : ∀ {r : ResultVar} {u : Value} {rs : List ResultVar} {vs : List Value}, (rsem a.tmps r).run P w = .ok u w → (rs.mapM (rsem a.tmps)).run P w = .ok vs w → ((r :: rs).mapM (rsem a.tmps)).run P w = .ok (u :: vs) w := by
    intro r u rs vs h1 h2
    simp only [List.mapM_cons, Sem.run_bind, Sem.run_pure, Result.andThen, h1, h2]
  induction h with
  | nil => rfl
  | tmp hv h ih => exact key (by simp only [rsem, Array.getD_eq_getD_getElem?, hk.2 _ _ hv, Option.getD_some, Sem.run_pure]) ih
  | agg k hv hF ht hagg hs h ih =>
    obtain ⟨h1, h2⟩ := segO_get hs
    exact key (rsem_cell (hk.2 _ _ hv) (loadVar_agg (P := P) (w := w) (off := 0) ht hagg (by rw [h1]; exact Nat.beq_refl _) (fun j hj => by rw [Nat.zero_add, (H.blk hF).cell, ← h2 j (by omega), Nat.zero_add]))) ih
  | whole k hv hF ht hagg hs h ih =>
    exact key (rsem_cell (hk.2 _ _ hv) (loadVar_agg (P := P) (w := w) (off := 0) ht hagg (by rw [hs]; exact Nat.beq_refl _) (fun j hj => by rw [Nat.zero_add, (H.blk hF).cell]))) ih
  | cell k hv hF ht hagg hs h ih =>
    have hc := ((H.blk hF).cell 0).trans ((nth_eq _ _).symm.trans hs)
    exact key (rsem_cell (hk.2 _ _ hv) (by simp [loadVar, run_isAgg ht, hagg, run_load, hc])) ih
theorem sn_ret {rs : List ResultVar} {vs : List Value} (hr : fn.results = ⟨rs⟩) (hv : Res tt E F rs vs) (he : Ent F G) (h : R (tupl vs) G) : SN N (bodyPost P fn (PostS b R)) .ret E [] b F := by
  constructor
  intro w H a hk hd
  refine ⟨hd, tupl vs, ?_, _, _, rfl, h, H.ent he⟩
  have h2 := hv.run P H hk
  have h3 : (results fn a.tmps).run P w = (do let vs ← (⟨rs⟩ : Array ResultVar).mapM (rsem a.tmps); pure (if h : vs.size = 1 then vs[0] else .tuple vs) : Sem Value).run P w := by
    simp only [results, hr]
    rfl
  rw [h3, List.mapM_toArray]
  simp only [Sem.run_bind, Sem.run_pure, Result.andThen, Sem.run_map, h2]
  match vs with
  | [] => rfl
  | [v] => rfl
  | _ :: _ :: _ => rfl
theorem sn_end {rs : List ResultVar} {vs : List Value} (hr : fn.results = ⟨rs⟩) (hv : Res tt E F rs vs) (he : Ent F G) (h : R (tupl vs) G) : SN N (bodyPost P fn (PostS b R)) .normal E [] b F := by
  constructor
  intro w H a hk hd
  exact (sn_ret hr hv he h).1 w H a hk hd
end
end Go.Eng
