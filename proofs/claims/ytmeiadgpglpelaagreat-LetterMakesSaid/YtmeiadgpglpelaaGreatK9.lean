/- Letters as bytes: the plain law. Conditions: none. -/
import Derived.Test.YtmeiadgpglpelaaGreatK7
import Derived.Test.YtmeiadgpglpelaaGreatK8
import Derived.Test.YtmeiadgpglpelaaGreatK6
import Derived.Test.YtmeiadgpglpelaaGreatK3
namespace Go.Proofs.YtmeiadgpglpelaaGreat
open Go Go.Eng Go.RowKit

structure Lt where
  kind : Int
  from' : Int
  to' : Int
  sv : Value
  seen : List Int
  ev : Value
  evs : List Ev
  r : Int
  n : Int
  id : List Int
  bv : Value
  bs : List Int
def ltC (x : Lt) : List Value := .int .i64 x.kind :: .int .i64 x.from' :: .int .i64 x.to' :: x.sv :: x.ev :: .int .i64 x.r :: .int .i64 x.n :: (u8s x.id ++ [x.bv])
abbrev ltV (x : Lt) : Value := .agg ⟨ltC x⟩
def ltZ : Lt := ⟨0, 0, 0, nS, [], nS, [], 0, 0, List.replicate 32 0, nS, []⟩
/-- What a letter says, told plain. -/
def nL (x : Lt) : Lt := { x with sv := nS, ev := nS, evs := x.evs.map nE, bv := nS }

/-! ## Encode -/
/-- The first fault of those events that can't be encoded. -/
def firstE : List Ev → Int
  | [] => 0
  | e :: l => if (encE e).2 ≠ 0 then (encE e).2 else firstE l
def encTH (x : Lt) : List (Bool × List Int) := [pNum x.kind, pNum x.from', pNum x.to', pVec x.seen, pNum x.evs.length]
def encTL (x : Lt) : List (Bool × List Int) := encTH x ++ (x.evs.map fun e => pBytes (encE e).1) ++ [pDot x.r x.n, pID x.id, pBytes x.bs]
def encT (x : Lt) : List Int × Int := if 8 < x.evs.length then ([], 4) else if firstE x.evs ≠ 0 then ([], firstE x.evs) else wdone (wputs 262144 (encTL x) ⟨[], 0⟩)
/-- The bytes of a letter that can be encoded. -/
def encTB (x : Lt) : List Int := ((encTL x).map Prod.snd).flatten

/-! ## Decode -/
/-- Events one behind the other: those told, and where the first lies that is none; the reader behind. -/
def rEvs (B : List Int) : Nat → RS → (List Ev × Option Int) × RS
  | 0, s => (([], none), s)
  | n + 1, s =>
    let p := rBytes B 16384 s
    if p.2.e ≠ 0 then (([], none), p.2)
    else if (decE p.1).2.1 ≠ 0 then (([], some s.at'), p.2)
    else
      let c := rEvs B n p.2
      (((decE p.1).1 :: c.1.1, c.1.2), c.2)
def decT3 (B : List Int) (k f t : Int) (sn : List Int) (evs : List Ev) (s : RS) : Lt × Int × Int :=
  let d := rDot B s
  let i := rID B d.2
  let bs := rBytes B 4096 i.2
  if (rEnd B bs.2).1 ≠ 0 then (ltZ, rEnd B bs.2)
  else (⟨k, f, t, nS, sn, nS, evs, d.1.1, d.1.2, i.1, nS, bs.1⟩, 0, 0)
def decTm (z : Lt × Int × Int) : Option Int → Lt × Int × Int
  | none => z
  | some a => (ltZ, 5, a)
def decT2 (B : List Int) (k f t : Int) (sn : List Int) (s : RS) : Lt × Int × Int :=
  let n := rNum B s
  if 8 < n.1 then (ltZ, 4, B.length - rRest B s)
  else decTm (decT3 B k f t sn (rEvs B n.1.toNat n.2).1.1 (rEvs B n.1.toNat n.2).2) (rEvs B n.1.toNat n.2).1.2
def decT (B : List Int) : Lt × Int × Int :=
  if 262144 < B.length then (ltZ, 4, 262144)
  else
    let k := rNum B r0
    let f := rNum B k.2
    let t := rNum B f.2
    let sn := rVec B 16 t.2
    decT2 B k.1 f.1 t.1 sn.1 sn.2
theorem rEvs_stuck {B : List Int} {s : RS} (h : s.e ≠ 0) (n : Nat) : rEvs B n s = (([], none), s) := by
  cases n with
  | zero => rfl
  | succ n => simp only [rEvs, rBytes_stuck _ h, if_pos h]
theorem dec_f2 {B : List Int} (h : (decE B).2.1 = 0) : (decE B).2 = (0, 0) := by
  have := (dAll_ok h).2.2.2.2
  rw [this]
/-- Reading events stays within the bytes. -/
theorem go_evs (n : Nat) : Go1 (fun B s => rEvs B n s) := by
  induction n with
  | zero => exact .nil ([], none)
  | succ n ih =>
    constructor
    · intro B s h
      refine Decidable.byContradiction fun he => ?_
      rw [rEvs_stuck he] at h
      exact he h
    · intro B C s h hs
      have hst : s.e = 0 := Decidable.byContradiction fun he => by
        rw [rEvs_stuck he] at h
        exact he h
      have hb := go_bytes 16384
      by_cases h1 : (rBytes B 16384 s).2.e = 0
      · obtain ⟨g1, g2, g3, g4⟩ := hb.go B C s h1 hs
        have g1' : rBytes (B ++ C) 16384 s = rBytes B 16384 s := g1
        by_cases h2 : (decE (rBytes B 16384 s).1).2.1 = 0
        · have e1 : rEvs B (n + 1) s = (((decE (rBytes B 16384 s).1).1 :: (rEvs B n (rBytes B 16384 s).2).1.1, (rEvs B n (rBytes B 16384 s).2).1.2), (rEvs B n (rBytes B 16384 s).2).2) := by
            simp only [rEvs, h1, h2, ne_eq, not_true, if_false]
          have e2 : rEvs (B ++ C) (n + 1) s = (((decE (rBytes B 16384 s).1).1 :: (rEvs (B ++ C) n (rBytes B 16384 s).2).1.1, (rEvs (B ++ C) n (rBytes B 16384 s).2).1.2), (rEvs (B ++ C) n (rBytes B 16384 s).2).2) := by
            simp only [rEvs, g1', h1, h2, ne_eq, not_true, if_false]
          rw [e1] at h
          obtain ⟨k1, k2, k3, k4⟩ := ih.go B C _ h g2
          rw [e1, e2, k1]
          exact ⟨rfl, k2, Nat.le_trans g3 k3, k4.trans g4⟩
        · have e1 : rEvs B (n + 1) s = (([], some (s.at' : Int)), (rBytes B 16384 s).2) := by
            simp only [rEvs, h1, h2, ne_eq, not_true, not_false_eq_true, if_false, if_true]
          have e2 : rEvs (B ++ C) (n + 1) s = (([], some (s.at' : Int)), (rBytes B 16384 s).2) := by
            simp only [rEvs, g1', h1, h2, ne_eq, not_true, not_false_eq_true, if_false, if_true]
          rw [e1, e2]
          exact ⟨rfl, g2, g3, g4⟩
      · exfalso
        have e1 : rEvs B (n + 1) s = (([], none), (rBytes B 16384 s).2) := by
          simp only [rEvs, ne_eq, h1, not_false_eq_true, if_true]
        rw [e1] at h
        exact h1 h
end Go.Proofs.YtmeiadgpglpelaaGreat
/- Letters in memory; the kit's functions on them. Conditions: not too much. -/
namespace Go.Proofs.YtmeiadgpglpelaaGreat
open Go Go.Eng Go.RowKit

theorem ltC_len {x : Lt} (h : x.id.length = 32) : (ltC x).length = 40 := by simp [ltC, u8s_len, h]
theorem ltC_one {x : Lt} (h1 : x.sv.oneCell' = true) (h2 : x.ev.oneCell' = true) (h3 : x.bv.oneCell' = true) : ∀ u ∈ ltC x, u.oneCell' = true := by
  intro u hu
  simp only [ltC, List.mem_cons, List.mem_append, List.not_mem_nil, or_false] at hu
  rcases hu with rfl | rfl | rfl | rfl | rfl | rfl | rfl | hu | rfl
  · rfl
  · rfl
  · rfl
  · exact h1
  · exact h2
  · rfl
  · rfl
  · exact u8s_one _ u hu
  · exact h3
theorem nth_app_len {l : List Value} {v : Value} {n : Nat} (h : l.length = n) : nth (l ++ [v]) n = some v := by
  rw [nth_eq, List.getElem?_append_right (by omega), h, Nat.sub_self]; rfl
theorem ltC_bv {x : Lt} (h : x.id.length = 32) : nth (ltC x) 39 = some x.bv := nth_app_len (l := u8s x.id) (n := 32) (by rw [u8s_len, h])
theorem ltC_id {x : Lt} (h : x.id.length = 32) : segO (ltC x) 7 32 = some (u8s x.id) := segO_front (n := 32) _ (by rw [u8s_len, h])
theorem ltC_dot {x : Lt} : segO (ltC x) 5 2 = some [.int .i64 x.r, .int .i64 x.n] := segO_front (l := [.int .i64 x.r, .int .i64 x.n]) (u8s x.id ++ [x.bv]) rfl
theorem ltC_stdot {x : Lt} {r n : Int} : splO (ltC x) 5 [.int .i64 r, .int .i64 n] = some (ltC { x with r := r, n := n }) := by
  show splO (_ :: _ :: _ :: _ :: _ :: ([.int .i64 x.r, .int .i64 x.n] ++ (u8s x.id ++ [x.bv]))) (4 + 1) _ = _
  rw [splO_succ, splO_succ, splO_succ, splO_succ, splO_succ, splO_front (a := [.int .i64 x.r, .int .i64 x.n]) (v := [.int .i64 r, .int .i64 n]) _ rfl]
  rfl
theorem ltC_stbv {x : Lt} {v : Value} (h : x.id.length = 32) : stO (ltC x) 39 v = some (ltC { x with bv := v }) := by
  refine stO_ok (by rw [ltC_len h]; omega) ?_
  simp only [ltC, List.set_cons_succ]
  have := set_at (u8s x.id) x.bv v []
  rw [u8s_len, h] at this
  rw [this]
theorem ltC_stid {x : Lt} {d : List Int} (h : x.id.length = 32) (hd : d.length = 32) : splO (ltC x) 7 (u8s d) = some (ltC { x with id := d }) := by
  show splO (_ :: _ :: _ :: _ :: _ :: _ :: _ :: (u8s x.id ++ [x.bv])) (6 + 1) (u8s d) = _
  rw [splO_succ, splO_succ, splO_succ, splO_succ, splO_succ, splO_succ, splO_succ, splO_front _ (by rw [u8s_len, u8s_len, h, hd])]
  rfl
/-- What a letter points to. -/
structure LR (w : World) (x : Lt) : Prop where
  sv : VL (Value.int .i64) w x.sv x.seen
  ev : EL w x.ev x.evs
  bv : VL (Value.int .u8) w x.bv x.bs
/-- A letter is one. -/
structure LW (x : Lt) : Prop where
  kind : I64 x.kind
  from' : I64 x.from'
  to' : I64 x.to'
  seen : ∀ y ∈ x.seen, I64 y
  evs : ∀ e ∈ x.evs, EW e
  dot : dotOk (x.r, x.n)
  id : idOk x.id
  bs : byteOk x.bs
theorem LR.ext {w w' : World} {x : Lt} (h : LR w x) (hE : Ext w w') : LR w' x := ⟨h.sv.ext hE, h.ev.ext hE, h.bv.ext hE⟩
theorem lr_form {w : World} {x : Lt} (h : LR w x) : x.sv.oneCell' = true ∧ x.ev.oneCell' = true ∧ x.bv.oneCell' = true := by
  obtain ⟨A, c, hd, _⟩ := h.sv.form
  obtain ⟨A2, c2, hr, _⟩ := sl_form h.ev.sl
  obtain ⟨A3, c3, hb, _⟩ := h.bv.form
  rw [hd, hr, hb]; exact ⟨rfl, rfl, rfl⟩
/-- Letters that are not too long. -/
structure LL (x : Lt) : Prop where
  seen : x.seen.length ≤ 20
  evs : x.evs.length ≤ 12
  ev : ∀ e ∈ x.evs, LE e
  bs : x.bs.length ≤ 5000
section
variable {b : World} {F : List SP} {x y : Lt}
set_option maxRecDepth 20000 in
set_option maxHeartbeats 2000000 in
theorem LongLetter_S (h32 : x.id.length = 32) (he : ∀ e ∈ x.evs, e.id.length = 32) (hx : ∀ w, Sat b F w → LR w x) : SC Tryz.prog n_entrepotkit_LongLetter [ltV x] b F (fun v F' => ∃ q : Bool, (q = false → LL x) ∧ v = .bool q ∧ F' = F) := by
  refine enterS F_entrepotkit_LongLetter rfl rfl rfl ?_
  refine sw_fact (fun w H => (hx w H).sv.form) ?_
  rintro ⟨A, c, hsv, _, _, _, _⟩
  refine sw_fact (fun w H => (hx w H).bv.form) ?_
  rintro ⟨A3, c3, hbv, _, _, _, _⟩
  (refine sw_seq (sw_region ?_))
  refine so_box rfl rfl rfl rfl rfl fun g1 => ?_
  (refine so_1 rfl ?_; refine so_nil (sn_then ?_); refine sw_seq (sw_region ?_); refine so_1 rfl ?_; refine so_l 0 rfl rfl rfl ?_)
  rw [hsv]
  ((iterate 3 refine so_1 rfl ?_))
  refine so_if 7 rfl (fun c1 => ?_) (fun c1 => ?_)
  · ((iterate 11 refine so_1 rfl ?_); refine so_nil (sn_then ?_); refine sw_ret ?_)
    refine sn_ret rfl (.tmp rfl .nil) (ent_keep 1 [] rfl rfl) ?_
    exact ⟨true, (fun h => by cases h), rfl, rfl⟩
  (refine so_1 rfl ?_; refine so_l 0 rfl rfl rfl ?_)
  refine so_call rfl rfl rfl (LongEvents_S (many := 12) (fun w H => (hx w (H.ent (ent_keep 1 [] rfl rfl))).ev) he (by decide)) ?_
  rintro _ _ ⟨q, hq, rfl, rfl⟩
  cases q with
  | true =>
    ((iterate 8 refine so_1 rfl ?_); refine so_nil (sn_then ?_); refine sw_ret ?_)
    refine sn_ret rfl (.tmp rfl .nil) (ent_keep 1 [] rfl rfl) ?_
    exact ⟨true, (fun h => by cases h), rfl, rfl⟩
  | false =>
  obtain ⟨h1, h2⟩ := hq rfl
  ((iterate 3 refine so_1 rfl ?_))
  refine so_ld 0 rfl rfl rfl rfl rfl rfl (ltC_bv h32) rfl ?_
  rw [hbv]
  ((iterate 4 refine so_1 rfl ?_); refine so_nil (sn_then ?_); refine sw_ret ?_)
  refine sn_ret rfl (.tmp rfl .nil) (ent_keep 1 [] rfl rfl) ?_
  exact ⟨_, (fun h => ⟨by omega, h1, h2, by have := of_decide_eq_false h; omega⟩), rfl, rfl⟩
/-- What an own letter owns. -/
abbrev ltP (y : Lt) : List SP := [rZ y.sv y.seen, rEs y.ev y.evs, all (evF y.evs), rB y.bv y.bs]
theorem lt_rows {j1 j2 j3 j4 : Nat} (h1 : nth F j1 = some (rZ y.sv y.seen)) (h2 : nth F j2 = some (rEs y.ev y.evs)) (h3 : nth F j3 = some (all (evF y.evs))) (h4 : nth F j4 = some (rB y.bv y.bs)) : ∀ w, Sat b F w → LR w y := fun w H =>
  ⟨(H.oat h1).sl, rEs_el h2 h3 w H, (H.oat h4).sl⟩
theorem nL_id (h : nL y = nL x) : y.id = x.id := (congrArg Lt.id h : (nL y).id = (nL x).id)
theorem SameBytes_T {va vb : Value} {xs : List Int} (ha : ∀ w, Sat b F w → VL (Value.int .u8) w va xs) (hb : ∀ w, Sat b F w → VL (Value.int .u8) w vb xs) :
    SC Tryz.prog n_entrepotkit_SameBytes [va, vb] b F (fun v F' => v = .bool true ∧ F' = F) := by
  refine enterS F_entrepotkit_SameBytes rfl rfl rfl ?_
  (refine sw_seq (sw_region ?_); refine so_1 rfl ?_; refine so_nil (sn_then ?_); refine sw_seq (sw_region ?_); refine so_1 rfl ?_)
  refine so_b2s rfl rfl rfl rfl rfl rfl rfl ha ?_
  (refine so_1 rfl ?_)
  refine so_b2s rfl rfl rfl rfl rfl rfl rfl hb ?_
  ((iterate 2 refine so_1 rfl ?_); refine so_nil (sn_then ?_); refine sw_ret ?_)
  refine sn_ret rfl (.tmp rfl .nil) (ent_keep 0 [] rfl rfl) ?_
  exact ⟨congrArg Value.bool (decide_eq_true rfl), rfl⟩
set_option maxRecDepth 20000 in
set_option maxHeartbeats 4000000 in
theorem SameLetter_S (h : nL x = nL y) (hx : ∀ w, Sat b F w → LR w x) (hy : ∀ w, Sat b F w → LR w y) (h32 : x.id.length = 32) (hev : ∀ e ∈ x.evs, e.id.length = 32 ∧ len32 e.refs ∧ e.refs.length ≤ 1000000) :
    SC Tryz.prog n_entrepotkit_SameLetter [ltV x, ltV y] b F (fun v F' => v = .bool true ∧ F' = F) := by
  obtain ⟨k, f, t, sv2, sn, ev2, evs2, r, n, id, bv2, bs⟩ := y
  simp only [nL, Lt.mk.injEq] at h
  obtain ⟨rfl, rfl, rfl, _, rfl, _, hevs, rfl, rfl, rfl, _, rfl⟩ := h
  refine enterS F_entrepotkit_SameLetter rfl rfl rfl ?_
  (refine sw_seq (sw_region ?_))
  refine so_box rfl rfl rfl rfl rfl fun g2 => ?_
  skip
  refine so_box rfl rfl rfl rfl rfl fun g3 => ?_
  (refine so_1 rfl ?_; refine so_nil (sn_then ?_); refine sw_seq (sw_region ?_); refine so_1 rfl ?_; refine so_l 1 rfl rfl rfl ?_; refine so_1 rfl ?_; refine so_l 0 rfl rfl rfl ?_; (iterate 2 refine so_1 rfl ?_))
  refine so_know 10 (.bool true) rfl (congrArg Value.bool (decide_eq_true rfl)) ?_
  (refine so_1 rfl ?_; refine so_l 1 rfl rfl rfl ?_; refine so_1 rfl ?_; refine so_l 0 rfl rfl rfl ?_; (iterate 3 refine so_1 rfl ?_))
  refine so_know 17 (.bool true) rfl (congrArg Value.bool (decide_eq_true rfl)) ?_
  (refine so_1 rfl ?_; refine so_l 1 rfl rfl rfl ?_; refine so_1 rfl ?_; refine so_l 0 rfl rfl rfl ?_; (iterate 3 refine so_1 rfl ?_))
  refine so_know 24 (.bool true) rfl (congrArg Value.bool (decide_eq_true rfl)) ?_
  (refine so_1 rfl ?_; refine so_l 1 rfl rfl rfl ?_; refine so_1 rfl ?_; refine so_l 0 rfl rfl rfl ?_)
  refine so_callE rfl rfl rfl (SameInts_S (fun w H => (hx w (H.ent (ent_keep 2 [] rfl rfl))).sv) (fun w H => (hy w (H.ent (ent_keep 2 [] rfl rfl))).sv)) ?_
  ((iterate 2 refine so_1 rfl ?_))
  refine so_know 31 (.bool true) rfl (congrArg Value.bool (decide_eq_true rfl)) ?_
  (refine so_1 rfl ?_; refine so_l 1 rfl rfl rfl ?_; refine so_1 rfl ?_; refine so_l 0 rfl rfl rfl ?_)
  refine so_callE rfl rfl rfl (SameEvents_S hevs (fun w H => (hx w (H.ent (ent_keep 2 [] rfl rfl))).ev) (fun w H => (hy w (H.ent (ent_keep 2 [] rfl rfl))).ev) hev) ?_
  ((iterate 3 refine so_1 rfl ?_))
  refine so_ldA 1 rfl rfl rfl rfl rfl rfl ltC_dot rfl ?_
  (refine so_1 rfl ?_)
  refine so_ldA 0 rfl rfl rfl rfl rfl rfl (ltC_dot (x := ⟨x.kind, x.from', x.to', sv2, x.seen, ev2, evs2, x.r, x.n, x.id, bv2, x.bs⟩)) rfl ?_
  refine so_pu rfl (pu_eqA rfl rfl (eq_dot x.r x.n x.r x.n)) rfl ?_
  ((iterate 2 refine so_1 rfl ?_))
  refine so_know 45 (.bool true) rfl (congrArg Value.bool (decide_eq_true ⟨rfl, rfl⟩)) ?_
  (refine so_1 rfl ?_)
  refine so_ldA 1 rfl rfl rfl rfl rfl rfl (ltC_id h32) rfl ?_
  (refine so_1 rfl ?_)
  refine so_ldA 0 rfl rfl rfl rfl rfl rfl (ltC_id (x := ⟨x.kind, x.from', x.to', sv2, x.seen, ev2, evs2, x.r, x.n, x.id, bv2, x.bs⟩) h32) rfl ?_
  refine so_pu rfl (pu_eqI (as00 := x.id) (bs := x.id) rfl rfl h32 h32) rfl ?_
  ((iterate 2 refine so_1 rfl ?_))
  refine so_know 52 (.bool true) rfl (congrArg Value.bool (decide_eq_true rfl)) ?_
  (refine so_1 rfl ?_)
  refine so_ld 1 rfl rfl rfl rfl rfl rfl (ltC_bv h32) rfl ?_
  (refine so_1 rfl ?_)
  refine so_ld 0 rfl rfl rfl rfl rfl rfl (ltC_bv (x := ⟨x.kind, x.from', x.to', sv2, x.seen, ev2, evs2, x.r, x.n, x.id, bv2, x.bs⟩) h32) rfl ?_
  refine so_callE rfl rfl rfl (SameBytes_T (xs := x.bs) (fun w H => (hx w (H.ent (ent_keep 2 [] rfl rfl))).bv) (fun w H => (hy w (H.ent (ent_keep 2 [] rfl rfl))).bv)) ?_
  ((iterate 2 refine so_1 rfl ?_); refine so_nil (sn_then ?_); refine sw_ret ?_)
  refine sn_ret rfl (.tmp rfl .nil) (ent_keep 2 [] rfl rfl) ?_
  exact ⟨rfl, rfl⟩
end
end Go.Proofs.YtmeiadgpglpelaaGreat
/- Wire, part sixteen: bytes are written by the program. Conditions: not too many bytes. -/
namespace Go.Proofs.YtmeiadgpglpelaaGreat
open Go Go.Eng Go.RowKit

section
variable {b : World} {F : List SP}
theorem formB_S {v vx : Value} {bs xs : List Int} (hx : ∀ w, Sat b F w → VL (Value.int .u8) w vx xs) (hs : xs.length ≤ 1000000) (hl : bs.length ≤ 50000000) : SC Tryz.prog n_wire_form [v, .iface t_sl_uint8 vx] b (rB v bs :: F) (fun u F' => ∃ r, u = .tuple ⟨[r, .bool true]⟩ ∧ F' = rB r (bs ++ (numB xs.length ++ xs)) :: F) := by
  have hn9 := numB_le9 xs.length
  refine enterS F_wire_form rfl rfl rfl ?_
  refine sw_fact (fun w H => (hx w (H.ent (ent_keep 1 [] rfl rfl))).form) ?_
  rintro ⟨A, c, rfl, _, _, _, _⟩
  (refine sw_seq (sw_region ?_); (iterate 2 refine so_1 rfl ?_); refine so_nil (sn_then ?_); (iterate 2 refine sw_seq ?_); refine sw_region ?_; refine so_1 rfl ?_; refine so_nil (sn_then ?_); refine sw_block ?_; refine sw_seq (sw_region ?_))
  refine so_as2 rfl rfl rfl rfl rfl rfl rfl ?_
  ((iterate 2 refine so_1 rfl ?_); refine so_nil (sn_then ?_); refine sw_cond_f rfl ?_; refine sw_seq (sw_region ?_))
  refine so_as2 rfl rfl rfl rfl rfl rfl rfl ?_
  ((iterate 2 refine so_1 rfl ?_); refine so_nil (sn_then ?_); refine sw_cond_f rfl ?_; refine sw_seq (sw_region ?_))
  refine so_as2 rfl rfl rfl rfl rfl rfl rfl ?_
  ((iterate 2 refine so_1 rfl ?_); refine so_nil (sn_then ?_); refine sw_cond_t rfl ?_; refine sw_seq (sw_region ?_); refine so_1 rfl ?_; refine so_nil (sn_then ?_); refine sw_seq (sw_region ?_); (iterate 4 refine so_1 rfl ?_))
  refine so_call rfl rfl rfl (formNat_S (n := xs.length) (by omega) (by omega)) ?_
  rintro _ _ ⟨r, rfl, rfl⟩
  ((iterate 4 refine so_1 rfl ?_); refine so_nil (sn_then ?_); refine sw_seq (sw_region ?_); (iterate 2 refine so_1 rfl ?_))
  refine so_append 0 rfl rfl rfl rfl rfl rfl rfl rfl rfl (fun w H => hx w (H.ent (ent_keep 1 [] rfl rfl))) (u8s_one _) (by simp; omega) (fun _ => rfl) fun r' => ?_
  refine so_ent (ent_rB (l := bs ++ (numB xs.length ++ xs)) 0 rfl (by simp; omega) (by simp) rfl) ?_
  ((iterate 2 refine so_1 rfl ?_); refine so_nil (sn_then ?_); refine sw_ret ?_; refine sn_block_ret ?_; refine sn_then_ret ?_)
  refine sn_ret rfl (.tmp rfl (.tmp rfl .nil)) (Ent.refl _) ?_
  exact ⟨r', rfl, rfl⟩
theorem wBytes_S {g gw : Nat} {v vx : Value} {lim : Int} {s : WS} {xs : List Int} (hx : ∀ w, Sat b F w → VL (Value.int .u8) w vx xs) (hX : xs.length ≤ 1000000) (hl : lim ≤ 16777216) (hs : (s.b.length : Int) ≤ lim) :
    SC Tryz.prog n_p_wire_Writer_Bytes [.pointer (some ⟨g, 0, none⟩), vx] b (wtP g gw v lim s ++ F) (fun _ F' => ∃ v', F' = wtP g gw v' lim (wput lim (pBytes xs) s) ++ F) := by
  have h9 := numB_le9 xs.length
  refine enterS F_p_wire_Writer_Bytes rfl rfl rfl ?_
  (refine sw_seq (sw_region ?_); refine so_1 rfl ?_; refine so_nil (sn_then ?_); refine sw_seq (sw_region ?_); (iterate 3 refine so_1 rfl ?_))
  refine so_call rfl rfl rfl (put_S (p := pBytes xs) (fun G hG => (formB_S (bs := []) (up hx hG) hX (Nat.zero_le _)).mono fun _ _ ⟨r, h1, h2⟩ => ⟨r, h1, by rw [h2]; simp only [pBytes, List.nil_append]⟩) hl hs (by simp only [pBytes, List.length_append]; omega)) ?_
  rintro _ _ ⟨v', rfl, rfl⟩
  (refine so_1 rfl ?_; refine so_nil (sn_then ?_); refine sw_ret ?_)
  refine sn_ret rfl (.tmp rfl .nil) (Ent.refl _) ?_
  exact ⟨v', rfl⟩
end
end Go.Proofs.YtmeiadgpglpelaaGreat
/- Letters as bytes: the program's Encode. Conditions: numbers of 64 bits; not too much. -/
namespace Go.Proofs.YtmeiadgpglpelaaGreat
open Go Go.Eng Go.RowKit

def bF : List (Value × List Int) → List SP
  | [] => []
  | p :: l => rB p.1 p.2 :: bF l
theorem bF_app (a c : List (Value × List Int)) : bF (a ++ c) = bF a ++ bF c := by
  induction a with
  | nil => rfl
  | cons p a ih => simp only [List.cons_append, bF, ih]
theorem firstE_zero {l : List Ev} (h : ∀ e ∈ l, (encE e).2 = 0) : firstE l = 0 := by
  induction l with
  | nil => rfl
  | cons e l ih =>
    rw [firstE, if_neg (by rw [h e List.mem_cons_self]; simp)]
    exact ih fun f hf => h f (List.mem_cons_of_mem _ hf)
theorem firstE_at {l : List Ev} {i : Nat} (hi : i < l.length) (h : ∀ j (hj : j < l.length), j < i → (encE l[j]).2 = 0) (hn : (encE l[i]).2 ≠ 0) : firstE l = (encE l[i]).2 := by
  induction l generalizing i with
  | nil => simp at hi
  | cons e l ih =>
    cases i with
    | zero =>
      have hn' : (encE e).2 ≠ 0 := hn
      rw [firstE, if_pos hn']; rfl
    | succ i =>
      rw [firstE, if_neg (by have := h 0 (by simp) (Nat.succ_pos i); simpa using this)]
      exact ih (by simpa using hi) (fun j hj hji => h (j + 1) (by simpa using hj) (by omega)) hn
theorem bF_snoc {a : List (Value × List Int)} {r : Value} {B : List Int} : (bF (a ++ [(r, B)])).Perm ([rB r B] ++ bF a) := by
  rw [bF_app]; exact List.perm_append_comm
section
variable {b : World} {F : List SP} {x : Lt}
theorem bF_vl {rs : List (Value × List Int)} {k : Nat} (hk : nth F k = some (all (bF rs))) {p : Value × List Int} (hp : p ∈ rs) : ∀ w, Sat b F w → VL (Value.int .u8) w p.1 p.2 := fun w hS => by
  obtain ⟨l1, l2, rfl⟩ := List.append_of_mem hp
  obtain ⟨h1, hl, hA⟩ := hS.mem.get hk
  have hq : (bF (l1 ++ p :: l2)).Perm (rB p.1 p.2 :: bF (l1 ++ l2)) := by
    rw [bF_app, bF, bF_app]
    exact List.perm_middle
  have h2 : Sat b (rB p.1 p.2 :: bF (l1 ++ l2)) w := ⟨hS.os, hS.tape, hS.output, (ent_perm hq _ hA).mono hl⟩
  exact vlB (k := 0) rfl w h2
abbrev rBs (v : Value) (n : Nat) (rs : List (Value × List Int)) : SP := row t_sl_uint8 1 v n (rs.map Prod.fst)
theorem enc_len (e : Ev) : (encE e).1.length ≤ 16384 := by
  by_cases hz : (encE e).2 = 0
  · obtain ⟨_, h8, h9, _⟩ := encE_ok hz
    rw [h8]; exact h9
  · rw [encE_bad hz]; decide
set_option maxRecDepth 20000 in
set_option maxHeartbeats 8000000 in
theorem EncodeT_S (hx : ∀ w, Sat b F w → LR w x) (hw : LW x) (hev : ∀ e ∈ x.evs, EvL e) (hs : x.seen.length ≤ 1000000) (hbs : x.bs.length ≤ 1000000) : SC Tryz.prog n_letter_Encode [ltV x] b F (fun u F' => ∃ r, u = .tuple ⟨[r, .int .i64 (encT x).2]⟩ ∧ F' = rB r (encT x).1 :: F) := by
  have h32 := hw.id.1
  have hdot := hw.dot
  have he32 : ∀ e ∈ x.evs, e.id.length = 32 := fun e he => (hw.evs e he).l32
  refine enterS F_letter_Encode rfl rfl rfl ?_
  refine sw_fact (fun w H => sl_form (hx w H).ev.sl) ?_
  rintro ⟨A, c, hxv, h1, h2, h3, h4, _⟩
  (refine sw_seq (sw_region ?_))
  refine so_box rfl rfl rfl rfl rfl fun g1 => ?_
  ((iterate 2 refine so_1 rfl ?_); refine so_nil (sn_then ?_); (iterate 2 refine sw_seq ?_); refine sw_region ?_; refine so_1 rfl ?_; refine so_l 0 rfl rfl rfl ?_)
  rw [hxv]
  ((iterate 2 refine so_1 rfl ?_); refine so_nil (sn_then ?_))
  refine sw_if rfl (fun h => ?_) (fun h => ?_)
  · have hr : encT x = ([], 4) := by unfold encT; rw [if_pos (by omega)]
    (refine sw_seq (sw_region ?_); (iterate 2 refine so_1 rfl ?_); refine so_nil (sn_then ?_); refine sw_ret ?_; refine sn_then_ret ?_)
    refine sn_ret rfl (.tmp rfl (.tmp rfl .nil)) ((ent_keep 1 [] rfl rfl).trans (ent_row_nil t_uint8 1 rfl)) ?_
    rw [hr]
    exact ⟨_, rfl, rfl⟩
  have hn8 : x.evs.length ≤ 8 := by omega
  have hr0 : encT x = if firstE x.evs ≠ 0 then ([], firstE x.evs) else wdone (wputs 262144 (encTL x) ⟨[], 0⟩) := by unfold encT; rw [if_neg (by omega)]
  (refine sw_skip ?_; refine sn_then ?_; refine sw_seq (sw_region ?_); refine so_1 rfl ?_; refine so_nil (sn_then ?_); (iterate 2 refine sw_seq ?_); refine sw_region ?_; refine so_1 rfl ?_; refine so_l 0 rfl rfl rfl ?_)
  rw [hxv]
  ((iterate 2 refine so_1 rfl ?_); refine so_nil (sn_then ?_); refine sw_block ?_)
  refine sw_loop (S := Nat × Value × List (Value × List Int)) (fun s => [(1, .pointer (some ⟨g1, 0, none⟩)), (4, s.2.1), (18, .slice A x.evs.length c), (19, .int .i64 (x.evs.length : Int)), (20, .int .i64 (s.1 : Int))]) (fun s => rBs s.2.1 s.1 s.2.2 :: all (bF s.2.2) :: pt g1 t_api_Letter (ltC x) :: F)
    (fun s => s.1 ≤ x.evs.length ∧ s.2.2.map Prod.snd = (x.evs.take s.1).map (fun e => (encE e).1) ∧ (∀ j (hj : j < x.evs.length), j < s.1 → (encE x.evs[j]).2 = 0) ∧ s.2.2.length = s.1 ∧ ∀ p ∈ s.2.2, p.1.oneCell' = true) (fun s => x.evs.length - s.1) (0, nS, []) ⟨rfl, rfl, rfl, rfl, rfl, trivial⟩ ?_ ⟨Nat.zero_le _, rfl, fun _ _ h => absurd h (Nat.not_lt_zero _), rfl, fun _ h => by cases h⟩ ?_
  · exact (ent_close (G := [])).trans (ent_row_nil t_sl_uint8 1 rfl)
  rintro ⟨i, v, rs⟩ ⟨hi, hrs, hz, hrl, ho⟩
  dsimp only at hi hrs hz hrl ho ⊢
  (refine sw_seq (sw_region ?_); refine so_1 rfl ?_; refine so_nil (sn_then ?_); refine sw_seq ?_)
  refine sw_if rfl (fun h5 => ?_) (fun h5 => ?_)
  · have h5' : i < x.evs.length := by omega
    obtain ⟨gg, oo, rfl⟩ := h4 (by omega)
    have hmem := List.getElem_mem h5'
    have hc : ∀ w, Sat b F w → ∀ j, j < 39 → w.cell? ⟨gg, oo + i * 39 + j, none⟩ = (evC x.evs[i])[j]? := fun w H j hj => ev_cell (by have := (hx w H).ev; rw [hxv] at this; exact this) he32 h5' hj
    have her : ∀ w, Sat b F w → ER w x.evs[i] := fun w H => (hx w H).ev.er _ hmem
    have hew := hw.evs _ hmem
    have hel := hev _ hmem
    have hfa : (encE x.evs[i]).2 ≠ 0 → firstE x.evs = (encE x.evs[i]).2 := fun h => firstE_at h5' hz h
    have hsn : (x.evs.take (i + 1)).map (fun e => (encE e).1) = (x.evs.take i).map (fun e => (encE e).1) ++ [(encE x.evs[i]).1] := by rw [List.take_succ_eq_append_getElem h5', List.map_append]; rfl
    have hnext : (encE x.evs[i]).2 = 0 → ∀ j (hj : j < x.evs.length), j < i + 1 → (encE x.evs[j]).2 = 0 := fun h j hj hlt => by
      by_cases e9 : j = i
      · subst e9; exact h
      · exact hz j hj (by omega)
    generalize x.evs[i] = e at *
    have e32 := hew.l32
    have el := evC_len e32
    refine sw_fact (fun w H => er_form (her w (H.ent (ent_keep 3 [] rfl rfl)))) ?_
    rintro ⟨o1, o2⟩
    have e1 := evC_one o1 o2
    (refine sw_skip ?_; refine sn_then ?_; refine sw_seq ?_; refine sw_block ?_; refine sw_seq (sw_region ?_); refine so_2 rfl (by omega) ?_)
    refine so_rd rfl (fun w H => ex_loadN (cs := evC e) rfl rfl rfl el (fun j hj => by rw [el] at hj; rw [mulz_eq, Int.toNat_natCast]; exact hc w (H.ent (ent_keep 3 [] rfl rfl)) j hj)) rfl ?_
    refine so_new rfl rfl rfl rfl rfl fun g6 => ?_
    refine so_stW 0 rfl rfl rfl rfl rfl rfl rfl el e1 (by rw [el]; rfl) ?_
    (refine so_nil (sn_then ?_); refine sw_seq (sw_region ?_))
    refine so_ldA 0 rfl rfl rfl rfl rfl rfl (segO_all (by rw [el]; rfl)) rfl ?_
    refine so_call rfl rfl rfl (Encode_S (fun w H => her w (H.ent (ent_keep 4 [] rfl rfl))) hew hel) ?_
    rintro _ _ ⟨r, rfl, rfl⟩
    have hbl := enc_len e
    generalize encE e = E at *
    obtain ⟨B, bf⟩ := E
    dsimp only at *
    refine so_fact (fun w H => (H.oat (k := 0) rfl).form) ?_
    rintro ⟨Ar, cr, rfl, _, _, _⟩
    ((iterate 5 refine so_1 rfl ?_); refine so_nil (sn_then ?_); (iterate 2 refine sw_seq ?_); refine sw_region ?_; (iterate 2 refine so_1 rfl ?_); refine so_nil (sn_then ?_))
    refine sw_ifn rfl (fun h6 => ?_) (fun h6 => ?_)
    · have hr : encT x = ([], bf) := by rw [hr0, hfa h6, if_pos h6]
      (refine sw_seq (sw_region ?_); (iterate 3 refine so_1 rfl ?_); refine so_nil (sn_then ?_); refine sw_ret ?_; refine sn_then_ret ?_; refine sn_block_ret ?_; refine sn_then_ret ?_; refine sn_loop_ret ?_; refine sn_block_ret ?_; refine sn_then_ret ?_)
      refine sn_ret rfl (.tmp rfl (.tmp rfl .nil)) ((ent_keep 5 [] rfl rfl).trans (ent_row_nil t_uint8 1 rfl)) ?_
      rw [hr]
      exact ⟨_, rfl, rfl⟩
    (refine sw_skip ?_; refine sn_then ?_; refine sw_region ?_; (iterate 2 refine so_1 rfl ?_))
    refine so_lit [.slice Ar B.length cr] rfl rfl rfl rfl rfl rfl rfl rfl rfl fun gl => ?_
    refine so_append (m := 1) (news := [.slice Ar B.length cr]) 3 rfl rfl rfl rfl rfl rfl rfl rfl rfl (fun w H => (H.blk (k := 0) rfl).sl rfl (by decide)) (by simp [Value.oneCell']) (by omega) (fun _ => rfl) fun v2 => ?_
    (refine so_1 rfl ?_; refine so_nil ?_; refine sn_block ?_; refine sn_then ?_; refine sw_region ?_; refine so_2 rfl (by (unfold I64; omega)) ?_; refine so_1 rfl ?_; refine so_nil ?_)
    rw [show (i : Int) + 1 = ((i + 1 : Nat) : Int) by omega]
    refine sn_ent (G := [rB (.slice Ar B.length cr) B] ++ all (bF rs) :: rBs v2 (i + 1) (rs ++ [(.slice Ar B.length cr, B)]) :: pt g1 t_api_Letter (ltC x) :: F) (by
      rw [rBs, List.map_append]; exact ent_keep 6 [1, 4, 3, 5] rfl rfl) ?_
    refine sn_ent (ent_in (A := bF (rs ++ [(.slice Ar B.length cr, B)])) bF_snoc) ?_
    refine sn_round (i + 1, v2, rs ++ [(.slice Ar B.length cr, B)]) ⟨rfl, rfl, rfl, rfl, rfl, trivial⟩ (ent_keep 3 [1, 0, 2] rfl rfl) ⟨h5', ?_, hnext h6, by simp [hrl], fun p hp => ?_⟩ (by dsimp only; omega)
    · dsimp only
      rw [List.map_append, hrs, hsn]; rfl
    · rcases List.mem_append.1 hp with hp | hp
      · exact ho p hp
      · rw [List.mem_singleton.1 hp]; rfl
  obtain rfl : i = x.evs.length := by omega
  rw [List.take_length] at hrs
  have hf0 : firstE x.evs = 0 := firstE_zero fun e he => by
    obtain ⟨k, hk, rfl⟩ := List.mem_iff_getElem.1 he
    exact hz k hk hk
  have hr : encT x = wdone (wputs 262144 (encTL x) ⟨[], 0⟩) := by rw [hr0, hf0, if_neg (by simp)]
  clear hr0
  refine sw_fact (fun w H => sl_form (H.oat (k := 0) rfl).sl) ?_
  rintro ⟨Aa, ca, rfl, _, _, _, a4, _⟩
  have hcell : ∀ j (hj : j < rs.length), ∀ w, Sat b (all (bF rs) :: F) w → VL (Value.int .u8) w rs[j].1 rs[j].2 := fun j hj => bF_vl (k := 0) rfl (List.getElem_mem hj)
  have hblen : ∀ p ∈ rs, p.2.length ≤ 16384 := fun p hp => by
    have h9 : p.2 ∈ rs.map Prod.snd := List.mem_map_of_mem hp
    rw [hrs] at h9
    obtain ⟨e, _, he⟩ := List.mem_map.1 h9
    rw [← he]; exact enc_len e
  (refine sw_exit ?_; refine sn_then_exit ?_; refine sn_loop_exit ?_; refine sn_block_exit ?_; refine sn_then ?_; refine sw_seq (sw_region ?_))
  refine so_call rfl rfl rfl (NewWriter_S (by decide) (by decide)) ?_
  rintro _ _ ⟨g, gw, rfl, rfl⟩
  ((iterate 5 refine so_1 rfl ?_); refine so_nil (sn_then ?_); refine sw_seq (sw_region ?_); (iterate 2 refine so_1 rfl ?_); refine so_l 5 rfl rfl rfl ?_)
  refine so_call rfl rfl rfl (wNum_S hw.kind (by decide) (by decide)) ?_
  rintro _ _ ⟨v1, rfl⟩
  have k1 := wput_len (lim := 262144) (p := pNum x.kind) (s := ⟨[], 0⟩) (by decide)
  (refine so_nil (sn_then ?_); refine sw_seq (sw_region ?_); (iterate 2 refine so_1 rfl ?_); refine so_l 5 rfl rfl rfl ?_)
  refine so_call rfl rfl rfl (wNum_S hw.from' (by decide) k1) ?_
  rintro _ _ ⟨v2, rfl⟩
  have k2 := wput_len (p := pNum x.from') k1
  (refine so_nil (sn_then ?_); refine sw_seq (sw_region ?_); (iterate 2 refine so_1 rfl ?_); refine so_l 5 rfl rfl rfl ?_)
  refine so_call rfl rfl rfl (wNum_S hw.to' (by decide) k2) ?_
  rintro _ _ ⟨v3, rfl⟩
  have k3 := wput_len (p := pNum x.to') k2
  (refine so_nil (sn_then ?_); refine sw_seq (sw_region ?_); (iterate 2 refine so_1 rfl ?_); refine so_l 5 rfl rfl rfl ?_)
  refine so_call rfl rfl rfl (wVec_S (fun w H => (hx w (H.ent (ent_keep 3 [] rfl rfl))).sv) hw.seen hs (by decide) k3) ?_
  rintro _ _ ⟨v4, rfl⟩
  have k4 := wput_len (p := pVec x.seen) k3
  (refine so_nil (sn_then ?_); refine sw_seq (sw_region ?_); (iterate 3 refine so_1 rfl ?_))
  refine so_call rfl rfl rfl (wNum_S (n := x.evs.length) ⟨by omega, by omega⟩ (by decide) k4) ?_
  rintro _ _ ⟨v5, rfl⟩
  have k5 := wput_len (p := pNum x.evs.length) k4
  generalize hs5 : wput 262144 (pNum x.evs.length) (wput 262144 (pVec x.seen) (wput 262144 (pNum x.to') (wput 262144 (pNum x.from') (wput 262144 (pNum x.kind) ⟨[], 0⟩)))) = s5 at k5 ⊢
  (refine so_nil (sn_then ?_); (iterate 2 refine sw_seq ?_); refine sw_region ?_; (iterate 3 refine so_1 rfl ?_); refine so_nil (sn_then ?_); refine sw_block ?_)
  refine sw_loop (S := Nat × Value) (fun t => [(1, .pointer (some ⟨g1, 0, none⟩)), (9, .pointer (some ⟨g, 0, none⟩)), (61, .slice Aa x.evs.length ca), (62, .int .i64 (x.evs.length : Int)), (63, .int .i64 (t.1 : Int))]) (fun t => wtP g gw t.2 262144 (wputs 262144 ((rs.take t.1).map fun p => pBytes p.2) s5) ++ (rBs (.slice Aa x.evs.length ca) x.evs.length rs :: all (bF rs) :: pt g1 t_api_Letter (ltC x) :: F)) (fun t => t.1 ≤ x.evs.length) (fun t => x.evs.length - t.1) (0, v5) ⟨rfl, rfl, rfl, rfl, rfl, trivial⟩ (Ent.refl _) (Nat.zero_le _) ?_
  rintro ⟨i, v6⟩ hi
  dsimp only at hi ⊢
  have k6 := wputs_len ((rs.take i).map fun p => pBytes p.2) k5
  (refine sw_seq (sw_region ?_); refine so_1 rfl ?_; refine so_nil (sn_then ?_); refine sw_seq ?_)
  refine sw_if rfl (fun h5 => ?_) (fun h5 => ?_)
  · have h5' : i < rs.length := by omega
    obtain ⟨ga, oa, rfl⟩ := a4 (by omega)
    have hsn : (rs.take (i + 1)).map (fun p => pBytes p.2) = (rs.take i).map (fun p => pBytes p.2) ++ [pBytes rs[i].2] := by rw [List.take_succ_eq_append_getElem h5', List.map_append]; rfl
    have hmem := List.getElem_mem h5'
    have hbi := hblen _ hmem
    have hvi := hcell i h5'
    have hci : (rs.map Prod.fst)[i]? = some rs[i].1 := by rw [List.getElem?_map, List.getElem?_eq_getElem h5']; rfl
    generalize rs[i] = p at *
    obtain ⟨r, B⟩ := p
    dsimp only at *
    (refine sw_skip ?_; refine sn_then ?_; refine sw_seq ?_; refine sw_block ?_; refine sw_seq (sw_region ?_); refine so_2 rfl (by omega) ?_)
    refine so_rd rfl (fun w H => ex_load rfl rfl rfl (by rw [mulz_eq, Int.toNat_natCast, Nat.mul_one]; exact row_cell (k := 3) rfl hci w H)) rfl ?_
    (refine so_1 rfl ?_; refine so_nil (sn_then ?_); refine sw_region ?_; (iterate 2 refine so_1 rfl ?_))
    refine so_call rfl rfl rfl (wBytes_S (fun w H => hvi w (H.ent (ent_keep 3 [1] rfl rfl))) (by omega) (by decide) k6) ?_
    rintro _ _ ⟨v7, rfl⟩
    (refine so_nil ?_; refine sn_block ?_; refine sn_then ?_; refine sw_region ?_; refine so_2 rfl (by (unfold I64; omega)) ?_; refine so_1 rfl ?_; refine so_nil ?_)
    rw [show (i : Int) + 1 = ((i + 1 : Nat) : Int) by omega]
    refine sn_round (i + 1, v7) ⟨rfl, rfl, rfl, rfl, rfl, trivial⟩ ?_ (by dsimp only; omega) (by dsimp only; omega)
    dsimp only
    rw [hsn, wputs_snoc]
    exact Ent.refl _
  obtain rfl : i = x.evs.length := by omega
  have hmid : (rs.take x.evs.length).map (fun p => pBytes p.2) = x.evs.map fun e => pBytes (encE e).1 := by
    rw [← hrl, List.take_length]
    have : rs.map (fun p => pBytes p.2) = (rs.map Prod.snd).map pBytes := by rw [List.map_map]; rfl
    rw [this, hrs, List.map_map]; rfl
  rw [hmid] at k6 ⊢
  (refine sw_exit ?_; refine sn_then_exit ?_; refine sn_loop_exit ?_; refine sn_block_exit ?_; refine sn_then ?_; refine sw_seq (sw_region ?_); (iterate 2 refine so_1 rfl ?_))
  refine so_ldA 5 rfl rfl rfl rfl rfl rfl ltC_dot rfl ?_
  refine so_call rfl rfl rfl (wDot_S (i64_of hdot.1) (i64_of hdot.2) (by decide) k6) ?_
  rintro _ _ ⟨v8, rfl⟩
  have k8 := wput_len (p := pDot x.r x.n) k6
  (refine so_nil (sn_then ?_); refine sw_seq (sw_region ?_); (iterate 2 refine so_1 rfl ?_))
  refine so_ldA 5 rfl rfl rfl rfl rfl rfl (ltC_id h32) rfl ?_
  refine so_call rfl rfl rfl (wID_S h32 (by decide) k8) ?_
  rintro _ _ ⟨v9, rfl⟩
  have k9 := wput_len (p := pID x.id) k8
  (refine so_nil (sn_then ?_); refine sw_seq (sw_region ?_); (iterate 2 refine so_1 rfl ?_))
  refine so_ld 5 rfl rfl rfl rfl rfl rfl (ltC_bv h32) rfl ?_
  refine so_call rfl rfl rfl (wBytes_S (fun w H => (hx w (H.ent (ent_keep 3 [] rfl rfl))).bv) hbs (by decide) k9) ?_
  rintro _ _ ⟨v10, rfl⟩
  have k10 := wput_len (p := pBytes x.bs) k9
  have hall : wputs 262144 (encTL x) ⟨[], 0⟩ = wput 262144 (pBytes x.bs) (wput 262144 (pID x.id) (wput 262144 (pDot x.r x.n) (wputs 262144 (x.evs.map fun e => pBytes (encE e).1) s5))) := by
    unfold encTL
    rw [wputs_app, wputs_app, ← hs5]; rfl
  rw [← hall] at k10 ⊢
  (refine so_nil (sn_then ?_); refine sw_seq (sw_region ?_); refine so_1 rfl ?_)
  refine so_call rfl rfl rfl (wDone_S (by omega)) ?_
  rintro _ _ ⟨r, rfl, rfl⟩
  ((iterate 4 refine so_1 rfl ?_); refine so_nil (sn_then ?_); refine sw_ret ?_)
  refine sn_ret rfl (.tmp rfl (.tmp rfl .nil)) (ent_keep 4 [0] rfl rfl) ?_
  rw [hr]
  exact ⟨r, rfl, rfl⟩
end
end Go.Proofs.YtmeiadgpglpelaaGreat
/- Letters: the program's Check, its parts. Conditions: numbers of 64 bits; not too much. -/
namespace Go.Proofs.YtmeiadgpglpelaaGreat
open Go Go.Eng Go.RowKit

/-! ## The plain law -/
def headT (x : Lt) (n : Int) : Bool := decide (1 ≤ x.from' ∧ x.from' ≤ n ∧ 1 ≤ x.to' ∧ x.to' ≤ n ∧ x.from' ≠ x.to' ∧ (x.seen.length : Int) = n) && x.seen.all okNum
def bareT (x : Lt) : Bool := decide (x.r = 0 ∧ x.n = 0 ∧ x.id = List.replicate 32 0 ∧ x.bs.length = 0)
def dotT (x : Lt) (n w : Int) : Int := if x.r < 1 ∨ n < x.r ∨ x.n < 1 ∨ 1048576 < x.n then 2 else if hasM x.id w = true then 0 else 8
/-- Is an event out of order, behind another one? -/
def lateB : Option Ev → Ev → Bool
  | none, _ => false
  | some p, e => !evLt p e
def firstC (n w : Int) : List Ev → Int
  | [] => 0
  | e :: _ => chkE e n w
/-- Why these events, one behind the other, may not be; the one ahead of them. -/
def giveT (n w : Int) : Option Ev → List Ev → Int
  | _, [] => 0
  | p, e :: l => if chkE e n w ≠ 0 then chkE e n w else if lateB p e = true then 25 else giveT n w (some e) l
def kindT (x : Lt) (n w : Int) : Int :=
  if x.kind = 1 then (if bareT x = false ∨ x.evs.length ≠ 1 then 2 else firstC n w x.evs)
  else if x.kind = 2 then (if bareT x = false ∨ 0 < x.evs.length then 2 else 0)
  else if x.kind = 3 then (if bareT x = false then 2 else if 8 < x.evs.length then 4 else giveT n w none x.evs)
  else if x.kind = 4 then (if 0 < x.evs.length ∨ 0 < x.bs.length then 2 else dotT x n w)
  else if 0 < x.evs.length then 2 else if dotT x n w ≠ 0 then dotT x n w else if 4096 < x.bs.length then 4 else if cutR (sumM x.bs) w = x.id then 0 else 8
/-- Why a letter may not be. -/
def chkT (x : Lt) (n w : Int) : Int :=
  if n < 1 ∨ 16 < n ∨ w < 1 ∨ 32 < w then 3
  else if headT x n = false then 2
  else if x.kind < 1 ∨ 5 < x.kind then 5
  else kindT x n w

/-! ## In memory -/
def lkC (x : Lt) (n w : Int) : List Value := ltC x ++ [.int .i64 n, .int .i64 w]
abbrev lkV (x : Lt) (n w : Int) : Value := .agg ⟨lkC x n w⟩
theorem lk_len {x : Lt} {n w : Int} (h : x.id.length = 32) : (lkC x n w).length = 42 := by simp [lkC, ltC_len h]
theorem lk_n {x : Lt} {n w : Int} (h : x.id.length = 32) : nth (lkC x n w) 40 = some (.int .i64 n) := by
  rw [nth_eq, lkC, List.getElem?_append_right (by rw [ltC_len h]; omega), ltC_len h]; rfl
theorem lk_w {x : Lt} {n w : Int} (h : x.id.length = 32) : nth (lkC x n w) 41 = some (.int .i64 w) := by
  rw [nth_eq, lkC, List.getElem?_append_right (by rw [ltC_len h]; omega), ltC_len h]; rfl
theorem lk_lt {x : Lt} {n w : Int} (h : x.id.length = 32) : segO (lkC x n w) 0 40 = some (ltC x) := segO_front (n := 40) _ (ltC_len h)
theorem lk_bv {x : Lt} {n w : Int} (h : x.id.length = 32) : nth (lkC x n w) 39 = some x.bv := by
  rw [nth_eq, lkC, List.getElem?_append_left (by rw [ltC_len h]; omega), ← nth_eq]; exact ltC_bv h
theorem segO_app {cs m vs : List Value} : ∀ {o k : Nat}, segO cs o k = some vs → segO (cs ++ m) o k = some vs := by
  induction cs generalizing vs with
  | nil =>
    intro o k h
    cases o with
    | zero =>
      cases k with
      | zero => cases m <;> simpa [segO] using h
      | succ k => simp [segO] at h
    | succ o => simp [segO] at h
  | cons c cs ih =>
    intro o k h
    cases o with
    | zero =>
      cases k with
      | zero => simpa [segO] using h
      | succ k =>
        simp only [segO, List.cons_append] at h ⊢
        cases hr : segO cs 0 k with
        | none => rw [hr] at h; cases h
        | some r => rw [hr] at h; rw [ih hr]; exact h
    | succ o =>
      simp only [segO, List.cons_append] at h ⊢
      exact ih h
theorem lk_dot {x : Lt} {n w : Int} : segO (lkC x n w) 5 2 = some [.int .i64 x.r, .int .i64 x.n] := segO_app ltC_dot
theorem lk_id {x : Lt} {n w : Int} (h : x.id.length = 32) : segO (lkC x n w) 7 32 = some (u8s x.id) := segO_app (ltC_id h)
section
variable {b : World} {F : List SP} {x : Lt} {n w0 : Int}
theorem region_S {r : Int} (h32 : x.id.length = 32) : SC Tryz.prog n_letter_looker_region [lkV x n w0, .int .i64 r] b F (fun u F' => u = .bool (decide (1 ≤ r ∧ r ≤ n)) ∧ F' = F) := by
  refine enterS F_letter_looker_region rfl rfl rfl ?_
  (refine sw_seq (sw_region ?_))
  refine so_box rfl rfl rfl rfl rfl fun g2 => ?_
  (refine so_1 rfl ?_; refine so_nil (sn_then ?_); refine sw_seq (sw_region ?_); (iterate 3 refine so_1 rfl ?_))
  refine so_if 7 rfl (fun c => ?_) (fun c => ?_)
  · ((iterate 2 refine so_1 rfl ?_))
    refine so_ld 0 rfl rfl rfl rfl rfl rfl (lk_n h32) rfl ?_
    ((iterate 3 refine so_1 rfl ?_); refine so_nil (sn_then ?_); refine sw_ret ?_)
    refine sn_ret rfl (.tmp rfl .nil) (ent_keep 1 [] rfl rfl) ?_
    exact ⟨congrArg Value.bool (decide_eq_decide.2 (by omega)), rfl⟩
  · ((iterate 6 refine so_1 rfl ?_); refine so_nil (sn_then ?_); refine sw_ret ?_)
    refine sn_ret rfl (.tmp rfl .nil) (ent_keep 1 [] rfl rfl) ?_
    exact ⟨congrArg Value.bool (decide_eq_false (by omega)).symm, rfl⟩
set_option maxRecDepth 20000 in
theorem bare_S (h32 : x.id.length = 32) (hx : ∀ w, Sat b F w → LR w x) : SC Tryz.prog n_letter_looker_bare [lkV x n w0] b F (fun u F' => u = .bool (bareT x) ∧ F' = F) := by
  refine enterS F_letter_looker_bare rfl rfl rfl ?_
  refine sw_fact (fun w H => (hx w H).bv.form) ?_
  rintro ⟨A, c, hbv, _, _, _, _⟩
  (refine sw_seq (sw_region ?_))
  refine so_box rfl rfl rfl rfl rfl fun g1 => ?_
  (refine so_1 rfl ?_; refine so_nil (sn_then ?_); refine sw_seq (sw_region ?_); (iterate 2 refine so_1 rfl ?_))
  refine so_ldA 0 rfl rfl rfl rfl rfl rfl lk_dot rfl ?_
  (refine so_1 rfl ?_)
  refine so_know 6 (dotV 0 0) rfl rfl ?_
  refine so_pu rfl (pu_eqA rfl rfl (eq_dot x.r x.n 0 0)) rfl ?_
  (refine so_1 rfl ?_)
  refine so_if 8 rfl (fun c1 => ?_) (fun c1 => ?_)
  rotate_left
  · ((iterate 14 refine so_1 rfl ?_); refine so_nil (sn_then ?_); refine sw_ret ?_)
    refine sn_ret rfl (.tmp rfl .nil) (ent_keep 1 [] rfl rfl) ?_
    exact ⟨congrArg Value.bool (decide_eq_false (fun h => c1 ⟨h.1, h.2.1⟩)).symm, rfl⟩
  ((iterate 2 refine so_1 rfl ?_))
  refine so_ldA 0 rfl rfl rfl rfl rfl rfl (lk_id h32) rfl ?_
  (refine so_1 rfl ?_)
  refine so_know 12 (idV (List.replicate 32 0)) rfl rfl ?_
  refine so_pu rfl (pu_eqI (as00 := x.id) (bs := List.replicate 32 0) rfl rfl h32 rfl) rfl ?_
  ((iterate 2 refine so_1 rfl ?_))
  refine so_if 15 rfl (fun c2 => ?_) (fun c2 => ?_)
  rotate_left
  · ((iterate 7 refine so_1 rfl ?_); refine so_nil (sn_then ?_); refine sw_ret ?_)
    refine sn_ret rfl (.tmp rfl .nil) (ent_keep 1 [] rfl rfl) ?_
    exact ⟨congrArg Value.bool (decide_eq_false (fun h => c2 h.2.2.1)).symm, rfl⟩
  ((iterate 2 refine so_1 rfl ?_))
  refine so_ld 0 rfl rfl rfl rfl rfl rfl (lk_bv h32) rfl ?_
  rw [hbv]
  ((iterate 4 refine so_1 rfl ?_); refine so_nil (sn_then ?_); refine sw_ret ?_)
  refine sn_ret rfl (.tmp rfl .nil) (ent_keep 1 [] rfl rfl) ?_
  exact ⟨congrArg Value.bool (decide_eq_decide.2 ⟨fun h => ⟨c1.1, c1.2, c2, by omega⟩, fun h => by have := h.2.2.2; omega⟩), rfl⟩
set_option maxRecDepth 20000 in
theorem dotted_S (h32 : x.id.length = 32) : SC Tryz.prog n_letter_looker_dotted [lkV x n w0] b F (fun u F' => u = .int .i64 (dotT x n w0) ∧ F' = F) := by
  refine enterS F_letter_looker_dotted rfl rfl rfl ?_
  (refine sw_seq (sw_region ?_))
  refine so_box rfl rfl rfl rfl rfl fun g1 => ?_
  (refine so_1 rfl ?_; refine so_nil (sn_then ?_); refine sw_seq (sw_region ?_); (iterate 2 refine so_1 rfl ?_))
  refine so_ldA 0 rfl rfl rfl rfl rfl rfl lk_dot rfl ?_
  refine so_new rfl rfl rfl rfl rfl fun g3 => ?_
  (refine so_s1 0 rfl rfl rfl rfl ?_; refine so_nil (sn_then ?_); refine sw_seq ?_; refine sw_block ?_; refine sw_seq (sw_region ?_))
  refine so_ldA 1 rfl rfl rfl rfl rfl rfl (segO_all (by rw [lk_len h32]; rfl)) rfl ?_
  (refine so_1 rfl ?_; refine so_l 0 rfl rfl rfl ?_)
  refine so_callE rfl rfl rfl (region_S h32) ?_
  ((iterate 2 refine so_1 rfl ?_))
  refine so_split 13 rfl (fun c1 => ?_) (fun c1 => ?_)
  · have hr : dotT x n w0 = 2 := by unfold dotT; rw [if_pos (by simp at c1; omega)]
    ((iterate 10 refine so_1 rfl ?_); refine so_nil (sn_then ?_); refine sw_cond_t rfl ?_; refine sw_seq (sw_region ?_); refine so_1 rfl ?_; refine so_nil (sn_then ?_); refine sw_ret ?_; refine sn_block_ret ?_; refine sn_then_ret ?_)
    refine sn_ret rfl (.tmp rfl .nil) (ent_keep 2 [] rfl rfl) ?_
    rw [hr]; exact ⟨rfl, rfl⟩
  have c1' : 1 ≤ x.r ∧ x.r ≤ n := by simpa using c1
  (refine so_1 rfl ?_; refine so_l 0 rfl rfl rfl ?_; (iterate 3 refine so_1 rfl ?_))
  refine so_if 18 rfl (fun c2 => ?_) (fun c2 => ?_)
  · have hr : dotT x n w0 = 2 := by unfold dotT; rw [if_pos (by omega)]
    ((iterate 5 refine so_1 rfl ?_); refine so_nil (sn_then ?_); refine sw_cond_t rfl ?_; refine sw_seq (sw_region ?_); refine so_1 rfl ?_; refine so_nil (sn_then ?_); refine sw_ret ?_; refine sn_block_ret ?_; refine sn_then_ret ?_)
    refine sn_ret rfl (.tmp rfl .nil) (ent_keep 2 [] rfl rfl) ?_
    rw [hr]; exact ⟨rfl, rfl⟩
  (refine so_1 rfl ?_; refine so_l 0 rfl rfl rfl ?_; (iterate 3 refine so_1 rfl ?_); refine so_nil (sn_then ?_))
  refine sw_if rfl (fun c3 => ?_) (fun c3 => ?_)
  · have hr : dotT x n w0 = 2 := by unfold dotT; rw [if_pos (by omega)]
    (refine sw_seq (sw_region ?_); refine so_1 rfl ?_; refine so_nil (sn_then ?_); refine sw_ret ?_; refine sn_block_ret ?_; refine sn_then_ret ?_)
    refine sn_ret rfl (.tmp rfl .nil) (ent_keep 2 [] rfl rfl) ?_
    rw [hr]; exact ⟨rfl, rfl⟩
  have hr : dotT x n w0 = if hasM x.id w0 = true then 0 else 8 := by unfold dotT; rw [if_neg (by omega)]
  (refine sw_seq (sw_region ?_); (iterate 2 refine so_1 rfl ?_))
  refine so_ldA 1 rfl rfl rfl rfl rfl rfl (lk_id h32) rfl ?_
  (refine so_1 rfl ?_)
  refine so_ld 1 rfl rfl rfl rfl rfl rfl (lk_w h32) rfl ?_
  refine so_callE rfl rfl rfl (Has_S h32) ?_
  cases hq : hasM x.id w0 with
  | false =>
    rw [if_neg (by rw [hq]; simp)] at hr
    ((iterate 2 refine so_1 rfl ?_); refine so_nil (sn_then ?_); refine sw_cond_t rfl ?_; refine sw_seq (sw_region ?_); refine so_1 rfl ?_; refine so_nil (sn_then ?_); refine sw_ret ?_; refine sn_block_ret ?_; refine sn_then_ret ?_)
    refine sn_ret rfl (.tmp rfl .nil) (ent_keep 2 [] rfl rfl) ?_
    rw [hr]; exact ⟨rfl, rfl⟩
  | true =>
    rw [if_pos hq] at hr
    ((iterate 2 refine so_1 rfl ?_); refine so_nil (sn_then ?_); refine sw_cond_f rfl ?_; refine sw_skip ?_; refine sn_block ?_; refine sn_then ?_; refine sw_seq (sw_region ?_); refine so_1 rfl ?_; refine so_nil (sn_then ?_); refine sw_ret ?_)
    refine sn_ret rfl (.tmp rfl .nil) (ent_keep 2 [] rfl rfl) ?_
    rw [hr]; exact ⟨rfl, rfl⟩
theorem lheaded1_S {y : Int} : SC Tryz.prog n_letter_looker_headed_1 [.int .i64 y] b F (fun v F' => v = .bool (!okNum y) ∧ F' = F) := by
  refine enterS F_letter_looker_headed_1 rfl rfl rfl ?_
  (refine sw_seq (sw_region ?_); refine so_1 rfl ?_; refine so_nil (sn_then ?_); refine sw_seq (sw_region ?_); (iterate 3 refine so_1 rfl ?_))
  refine so_if 5 rfl (fun h => ?_) (fun h => ?_)
  · ((iterate 4 refine so_1 rfl ?_); refine so_nil (sn_then ?_); refine sw_ret ?_)
    refine sn_ret rfl (.tmp rfl .nil) (Ent.refl _) ?_
    exact ⟨congrArg Value.bool (by unfold okNum; rw [decide_eq_false (by omega)]; rfl), rfl⟩
  · ((iterate 4 refine so_1 rfl ?_); refine so_nil (sn_then ?_); refine sw_ret ?_)
    refine sn_ret rfl (.tmp rfl .nil) (Ent.refl _) ?_
    refine ⟨congrArg Value.bool ?_, rfl⟩
    unfold okNum
    rw [decide_eq_true (by omega : 0 ≤ y), Bool.true_and, ← decide_not]
    exact decide_eq_decide.2 (by omega)
set_option maxRecDepth 20000 in
set_option maxHeartbeats 2000000 in
theorem headed_S (h32 : x.id.length = 32) (hx : ∀ w, Sat b F w → LR w x) (hs : x.seen.length ≤ 1000000) : SC Tryz.prog n_letter_looker_headed [lkV x n w0] b F (fun u F' => u = .bool (headT x n) ∧ F' = F) := by
  refine enterS F_letter_looker_headed rfl rfl rfl ?_
  refine sw_fact (fun w H => lr_form (hx w H)) ?_
  rintro ⟨q1, q2, q3⟩
  refine sw_fact (fun w H => (hx w H).sv.form) ?_
  rintro ⟨A, c, hsv, _, _, _, _⟩
  have xl := ltC_len h32
  have x1 := ltC_one q1 q2 q3
  (refine sw_seq (sw_region ?_))
  refine so_box rfl rfl rfl rfl rfl fun g1 => ?_
  (refine so_1 rfl ?_; refine so_nil (sn_then ?_); refine sw_seq (sw_region ?_); refine so_1 rfl ?_)
  refine so_ldA 0 rfl rfl rfl rfl rfl rfl (lk_lt h32) rfl ?_
  refine so_new rfl rfl rfl rfl rfl fun g3 => ?_
  refine so_stW 0 rfl rfl rfl rfl rfl rfl rfl xl x1 (by rw [xl]; rfl) ?_
  (refine so_nil (sn_then ?_); refine sw_seq (sw_region ?_))
  refine so_ldA 1 rfl rfl rfl rfl rfl rfl (segO_all (by rw [lk_len h32]; rfl)) rfl ?_
  (refine so_1 rfl ?_; refine so_l 0 rfl rfl rfl ?_)
  refine so_callE rfl rfl rfl (region_S h32) ?_
  (refine so_1 rfl ?_)
  refine so_if 10 rfl (fun c1 => ?_) (fun c1 => ?_)
  rotate_left
  · ((iterate 27 refine so_1 rfl ?_); refine so_nil (sn_then ?_); refine sw_ret ?_)
    refine sn_ret rfl (.tmp rfl .nil) (ent_keep 2 [] rfl rfl) ?_
    exact ⟨congrArg Value.bool (by unfold headT; rw [decide_eq_false (by omega)]; rfl), rfl⟩
  skip
  refine so_ldA 1 rfl rfl rfl rfl rfl rfl (segO_all (by rw [lk_len h32]; rfl)) rfl ?_
  (refine so_1 rfl ?_; refine so_l 0 rfl rfl rfl ?_)
  refine so_callE rfl rfl rfl (region_S h32) ?_
  ((iterate 2 refine so_1 rfl ?_))
  refine so_if 16 rfl (fun c2 => ?_) (fun c2 => ?_)
  rotate_left
  · ((iterate 21 refine so_1 rfl ?_); refine so_nil (sn_then ?_); refine sw_ret ?_)
    refine sn_ret rfl (.tmp rfl .nil) (ent_keep 2 [] rfl rfl) ?_
    exact ⟨congrArg Value.bool (by unfold headT; rw [decide_eq_false (by omega)]; rfl), rfl⟩
  (refine so_1 rfl ?_; refine so_l 0 rfl rfl rfl ?_; refine so_1 rfl ?_; refine so_l 0 rfl rfl rfl ?_; (iterate 3 refine so_1 rfl ?_))
  refine so_split 23 rfl (fun c3 => ?_) (fun c3 => ?_)
  rotate_left
  · have c3' : x.from' = x.to' := by simpa using c3
    ((iterate 14 refine so_1 rfl ?_); refine so_nil (sn_then ?_); refine sw_ret ?_)
    refine sn_ret rfl (.tmp rfl .nil) (ent_keep 2 [] rfl rfl) ?_
    exact ⟨congrArg Value.bool (by unfold headT; rw [decide_eq_false (by omega)]; rfl), rfl⟩
  have c3' : x.from' ≠ x.to' := by simpa using c3
  (refine so_1 rfl ?_; refine so_l 0 rfl rfl rfl ?_)
  rw [hsv]
  ((iterate 2 refine so_1 rfl ?_))
  refine so_ld 1 rfl rfl rfl rfl rfl rfl (lk_n h32) rfl ?_
  ((iterate 3 refine so_1 rfl ?_))
  refine so_if 31 rfl (fun c4 => ?_) (fun c4 => ?_)
  rotate_left
  · ((iterate 6 refine so_1 rfl ?_); refine so_nil (sn_then ?_); refine sw_ret ?_)
    refine sn_ret rfl (.tmp rfl .nil) (ent_keep 2 [] rfl rfl) ?_
    exact ⟨congrArg Value.bool (by unfold headT; rw [decide_eq_false (by omega)]; rfl), rfl⟩
  (refine so_1 rfl ?_; refine so_l 0 rfl rfl rfl ?_)
  rw [hsv]
  skip
  refine so_callE rfl rfl rfl (CFnI_S (q := fun y => !okNum y) (fun _ _ => lheaded1_S) (fun w H => by have := (hx w (H.ent (ent_keep 2 [] rfl rfl))).sv; rw [hsv] at this; exact this) (by omega)) ?_
  ((iterate 3 refine so_1 rfl ?_); refine so_nil (sn_then ?_); refine sw_ret ?_)
  refine sn_ret rfl (.tmp rfl .nil) (ent_keep 2 [] rfl rfl) ?_
  refine ⟨congrArg Value.bool ?_, rfl⟩
  unfold headT
  rw [decide_eq_true (by omega), Bool.true_and]
  rw [Bool.eq_iff_iff]; simp [List.any_eq_false, List.all_eq_true]
end
end Go.Proofs.YtmeiadgpglpelaaGreat
/- Letters: the program's Check, its ways. Conditions: numbers of 64 bits; not too much. -/
namespace Go.Proofs.YtmeiadgpglpelaaGreat
open Go Go.Eng Go.RowKit

theorem note_one {l : List Ev} {n w : Int} (h : 0 < l.length) : firstC n w l = chkE l[0] n w := by
  cases l with
  | nil => cases h
  | cons e l => rfl
theorem giveT_cons {n w : Int} {p : Option Ev} {e : Ev} {l : List Ev} : giveT n w p (e :: l) = if chkE e n w ≠ 0 then chkE e n w else if lateB p e = true then 25 else giveT n w (some e) l := by
  cases p <;> rfl
section
variable {b : World} {F : List SP} {x : Lt} {n w0 : Int}
set_option maxRecDepth 20000 in
set_option maxHeartbeats 2000000 in
theorem note_S (hx : ∀ w, Sat b F w → LR w x) (hw : LW x) (hev : ∀ e ∈ x.evs, EvL e) : SC Tryz.prog n_letter_looker_note [lkV x n w0] b F (fun u F' => u = .int .i64 (if bareT x = false ∨ x.evs.length ≠ 1 then 2 else firstC n w0 x.evs) ∧ F' = F) := by
  have h32 := hw.id.1
  refine enterS F_letter_looker_note rfl rfl rfl ?_
  refine sw_fact (fun w H => sl_form (hx w H).ev.sl) ?_
  rintro ⟨A, c, hxv, _, _, _, h4, _⟩
  (refine sw_seq (sw_region ?_))
  refine so_box rfl rfl rfl rfl rfl fun g1 => ?_
  (refine so_1 rfl ?_; refine so_nil (sn_then ?_); (iterate 2 refine sw_seq ?_); refine sw_region ?_)
  refine so_ldA 0 rfl rfl rfl rfl rfl rfl (segO_all (by rw [lk_len h32]; rfl)) rfl ?_
  refine so_callE rfl rfl rfl (bare_S h32 (fun w H => hx w (H.ent (ent_keep 1 [] rfl rfl)))) ?_
  cases hb : bareT x with
  | false =>
    ((iterate 8 refine so_1 rfl ?_); refine so_nil (sn_then ?_); refine sw_cond_t rfl ?_; refine sw_seq (sw_region ?_); refine so_1 rfl ?_; refine so_nil (sn_then ?_); refine sw_ret ?_; refine sn_then_ret ?_)
    refine sn_ret rfl (.tmp rfl .nil) (ent_keep 1 [] rfl rfl) ?_
    exact ⟨by rw [if_pos (.inl rfl)]; rfl, rfl⟩
  | true =>
  ((iterate 4 refine so_1 rfl ?_); refine so_l 0 rfl rfl rfl ?_)
  rw [hxv]
  ((iterate 3 refine so_1 rfl ?_); refine so_nil (sn_then ?_))
  refine sw_ifn rfl (fun c1 => ?_) (fun c1 => ?_)
  · (refine sw_seq (sw_region ?_); refine so_1 rfl ?_; refine so_nil (sn_then ?_); refine sw_ret ?_; refine sn_then_ret ?_)
    refine sn_ret rfl (.tmp rfl .nil) (ent_keep 1 [] rfl rfl) ?_
    exact ⟨by rw [if_pos (.inr (by omega))]; rfl, rfl⟩
  have hl1 : x.evs.length = 1 := by omega
  obtain ⟨gg, oo, rfl⟩ := h4 (by omega)
  have h0 : 0 < x.evs.length := by omega
  have hmem := List.getElem_mem h0
  have he32 : ∀ e ∈ x.evs, e.id.length = 32 := fun e he => (hw.evs e he).l32
  have hc : ∀ w, Sat b F w → ∀ j, j < 39 → w.cell? ⟨gg, oo + 0 * 39 + j, none⟩ = (evC x.evs[0])[j]? := fun w H j hj => ev_cell (by have := (hx w H).ev; rw [hxv] at this; exact this) he32 h0 hj
  have her : ∀ w, Sat b F w → ER w x.evs[0] := fun w H => (hx w H).ev.er _ hmem
  have hew := hw.evs _ hmem
  have hel := hev _ hmem
  rw [if_neg (fun h => h.elim (fun h => by cases h) fun h => h hl1), note_one h0]
  generalize x.evs[0] = e at *
  have el := evC_len hew.l32
  (refine sw_skip ?_; refine sn_then ?_; refine sw_seq ?_)
  refine sw_draw flo _ (by decide +kernel) (Ent.refl _) ?_
  ((iterate 2 refine sd_1 rfl (.inl rfl) ?_); refine sd_l 0 rfl rfl rfl rfl ?_)
  rw [hxv]
  (refine sd_2 rfl rfl (by omega) ?_)
  refine sd_rd rfl (fun w H => ex_loadN (cs := evC e) rfl rfl rfl el (fun j hj => by rw [el] at hj; exact hc w (H.ent (ent_keep 1 [] rfl rfl)) j hj)) rfl rfl ?_
  (refine sd_1 rfl (.inl rfl) ?_)
  refine sd_ld 0 rfl rfl rfl rfl rfl rfl (lk_n h32) rfl rfl ?_
  (refine sd_1 rfl (.inl rfl) ?_)
  refine sd_ld 0 rfl rfl rfl rfl rfl rfl (lk_w h32) rfl rfl ?_
  refine sd_callE rfl rfl rfl rfl (Check_S (fun w H => her w (H.ent (ent_keep 1 [] rfl rfl))) hew hel) (Ent.refl _) ?_
  (refine sd_1 rfl (.inl rfl) ?_)
  refine sd_nil ?_
  (refine sn_then ?_; refine sw_ret ?_)
  refine sn_ret rfl (.tmp rfl .nil) (ent_keep 1 [] rfl rfl) ?_
  exact ⟨rfl, rfl⟩
set_option maxRecDepth 20000 in
theorem ask_S (hx : ∀ w, Sat b F w → LR w x) (h32 : x.id.length = 32) : SC Tryz.prog n_letter_looker_ask [lkV x n w0] b F (fun u F' => u = .int .i64 (if bareT x = false ∨ 0 < x.evs.length then 2 else 0) ∧ F' = F) := by
  refine enterS F_letter_looker_ask rfl rfl rfl ?_
  refine sw_fact (fun w H => sl_form (hx w H).ev.sl) ?_
  rintro ⟨A, c, hxv, _, _, _, h4, _⟩
  (refine sw_seq (sw_region ?_))
  refine so_box rfl rfl rfl rfl rfl fun g1 => ?_
  (refine so_1 rfl ?_; refine so_nil (sn_then ?_); (iterate 2 refine sw_seq ?_); refine sw_region ?_)
  refine so_ldA 0 rfl rfl rfl rfl rfl rfl (segO_all (by rw [lk_len h32]; rfl)) rfl ?_
  refine so_callE rfl rfl rfl (bare_S h32 (fun w H => hx w (H.ent (ent_keep 1 [] rfl rfl)))) ?_
  cases hb : bareT x with
  | false =>
    ((iterate 8 refine so_1 rfl ?_); refine so_nil (sn_then ?_); refine sw_cond_t rfl ?_; refine sw_seq (sw_region ?_); refine so_1 rfl ?_; refine so_nil (sn_then ?_); refine sw_ret ?_; refine sn_then_ret ?_)
    refine sn_ret rfl (.tmp rfl .nil) (ent_keep 1 [] rfl rfl) ?_
    exact ⟨by rw [if_pos (.inl rfl)]; rfl, rfl⟩
  | true =>
  ((iterate 4 refine so_1 rfl ?_); refine so_l 0 rfl rfl rfl ?_)
  rw [hxv]
  ((iterate 3 refine so_1 rfl ?_); refine so_nil (sn_then ?_))
  refine sw_if rfl (fun c1 => ?_) (fun c1 => ?_)
  · (refine sw_seq (sw_region ?_); refine so_1 rfl ?_; refine so_nil (sn_then ?_); refine sw_ret ?_; refine sn_then_ret ?_)
    refine sn_ret rfl (.tmp rfl .nil) (ent_keep 1 [] rfl rfl) ?_
    exact ⟨by rw [if_pos (.inr (by omega))]; rfl, rfl⟩
  · (refine sw_skip ?_; refine sn_then ?_; refine sw_seq (sw_region ?_); refine so_1 rfl ?_; refine so_nil (sn_then ?_); refine sw_ret ?_)
    refine sn_ret rfl (.tmp rfl .nil) (ent_keep 1 [] rfl rfl) ?_
    exact ⟨by rw [if_neg (fun h => h.elim (fun h => by cases h) fun h => by omega)]; rfl, rfl⟩
set_option maxRecDepth 20000 in
theorem need_S (hx : ∀ w, Sat b F w → LR w x) (h32 : x.id.length = 32) : SC Tryz.prog n_letter_looker_need [lkV x n w0] b F (fun u F' => u = .int .i64 (if 0 < x.evs.length ∨ 0 < x.bs.length then 2 else dotT x n w0) ∧ F' = F) := by
  refine enterS F_letter_looker_need rfl rfl rfl ?_
  refine sw_fact (fun w H => sl_form (hx w H).ev.sl) ?_
  rintro ⟨A, c, hxv, _, _, _, h4, _⟩
  refine sw_fact (fun w H => (hx w H).bv.form) ?_
  rintro ⟨A2, c2, hbv, _, _, _, _⟩
  (refine sw_seq (sw_region ?_))
  refine so_box rfl rfl rfl rfl rfl fun g1 => ?_
  (refine so_1 rfl ?_; refine so_nil (sn_then ?_); (iterate 2 refine sw_seq ?_); refine sw_region ?_; (iterate 2 refine so_1 rfl ?_); refine so_l 0 rfl rfl rfl ?_)
  rw [hxv]
  ((iterate 3 refine so_1 rfl ?_))
  refine so_if 8 rfl (fun c1 => ?_) (fun c1 => ?_)
  · ((iterate 6 refine so_1 rfl ?_); refine so_nil (sn_then ?_); refine sw_cond_t rfl ?_; refine sw_seq (sw_region ?_); refine so_1 rfl ?_; refine so_nil (sn_then ?_); refine sw_ret ?_; refine sn_then_ret ?_)
    refine sn_ret rfl (.tmp rfl .nil) (ent_keep 1 [] rfl rfl) ?_
    exact ⟨by rw [if_pos (.inl (by omega))]; rfl, rfl⟩
  ((iterate 2 refine so_1 rfl ?_))
  refine so_ld 0 rfl rfl rfl rfl rfl rfl (lk_bv h32) rfl ?_
  rw [hbv]
  ((iterate 3 refine so_1 rfl ?_); refine so_nil (sn_then ?_))
  refine sw_if rfl (fun c2 => ?_) (fun c2 => ?_)
  · (refine sw_seq (sw_region ?_); refine so_1 rfl ?_; refine so_nil (sn_then ?_); refine sw_ret ?_; refine sn_then_ret ?_)
    refine sn_ret rfl (.tmp rfl .nil) (ent_keep 1 [] rfl rfl) ?_
    exact ⟨by rw [if_pos (.inr (by omega))]; rfl, rfl⟩
  (refine sw_skip ?_; refine sn_then ?_; refine sw_seq (sw_region ?_))
  refine so_ldA 0 rfl rfl rfl rfl rfl rfl (segO_all (by rw [lk_len h32]; rfl)) rfl ?_
  refine so_callE rfl rfl rfl (dotted_S h32) ?_
  (refine so_1 rfl ?_; refine so_nil (sn_then ?_); refine sw_ret ?_)
  refine sn_ret rfl (.tmp rfl .nil) (ent_keep 1 [] rfl rfl) ?_
  exact ⟨by rw [if_neg (by omega)]; rfl, rfl⟩
def prevE (l : List Ev) (i : Nat) : Option Ev := if i = 0 then none else l[i - 1]?
set_option maxRecDepth 20000 in
set_option maxHeartbeats 4000000 in
theorem give_S (hx : ∀ w, Sat b F w → LR w x) (hw : LW x) (hev : ∀ e ∈ x.evs, EvL e) : SC Tryz.prog n_letter_looker_give [lkV x n w0] b F (fun u F' => u = .int .i64 (if bareT x = false then 2 else if 8 < x.evs.length then 4 else giveT n w0 none x.evs) ∧ F' = F) := by
  have h32 := hw.id.1
  have he32 : ∀ e ∈ x.evs, e.id.length = 32 := fun e he => (hw.evs e he).l32
  refine enterS F_letter_looker_give rfl rfl rfl ?_
  refine sw_fact (fun w H => sl_form (hx w H).ev.sl) ?_
  rintro ⟨A, c, hxv, _, _, _, h4, _⟩
  (refine sw_seq (sw_region ?_))
  refine so_box rfl rfl rfl rfl rfl fun g1 => ?_
  (refine so_1 rfl ?_; refine so_nil (sn_then ?_); refine sw_seq (sw_region ?_); (iterate 2 refine so_1 rfl ?_); refine so_l 0 rfl rfl rfl ?_; refine so_1 rfl ?_; refine so_nil (sn_then ?_); refine sw_seq ?_; refine sw_block ?_; refine sw_seq (sw_region ?_))
  rw [hxv]
  skip
  refine so_ldA 0 rfl rfl rfl rfl rfl rfl (segO_all (by rw [lk_len h32]; rfl)) rfl ?_
  refine so_callE rfl rfl rfl (bare_S h32 (fun w H => hx w (H.ent (ent_keep 1 [] rfl rfl)))) ?_
  cases hb : bareT x with
  | false =>
    ((iterate 2 refine so_1 rfl ?_); refine so_nil (sn_then ?_); refine sw_cond_t rfl ?_; refine sw_seq (sw_region ?_); refine so_1 rfl ?_; refine so_nil (sn_then ?_); refine sw_ret ?_; refine sn_block_ret ?_; refine sn_then_ret ?_)
    refine sn_ret rfl (.tmp rfl .nil) (ent_keep 1 [] rfl rfl) ?_
    exact ⟨by rw [if_pos rfl]; rfl, rfl⟩
  | true =>
  rw [if_neg (by simp)]
  ((iterate 2 refine so_1 rfl ?_); refine so_nil (sn_then ?_); refine sw_cond_f rfl ?_; refine sw_seq (sw_region ?_); (iterate 4 refine so_1 rfl ?_); refine so_nil (sn_then ?_))
  refine sw_if rfl (fun c1 => ?_) (fun c1 => ?_)
  · (refine sw_seq (sw_region ?_); refine so_1 rfl ?_; refine so_nil (sn_then ?_); refine sw_ret ?_; refine sn_block_ret ?_; refine sn_then_ret ?_)
    refine sn_ret rfl (.tmp rfl .nil) (ent_keep 1 [] rfl rfl) ?_
    exact ⟨by rw [if_pos (by omega)]; rfl, rfl⟩
  rw [if_neg (by omega)]
  (refine sw_skip ?_; refine sn_block ?_; refine sn_then ?_; (iterate 2 refine sw_seq ?_); refine sw_region ?_; (iterate 3 refine so_1 rfl ?_); refine so_nil (sn_then ?_); refine sw_block ?_)
  refine sw_loop (S := Nat) (fun i => [(1, .pointer (some ⟨g1, 0, none⟩)), (3, .slice A x.evs.length c), (18, .slice A x.evs.length c), (19, .int .i64 (x.evs.length : Int)), (20, .int .i64 (i : Int))]) (fun _ => pt g1 t_letter_looker (lkC x n w0) :: F) (fun i => i ≤ x.evs.length ∧ giveT n w0 none x.evs = giveT n w0 (prevE x.evs i) (x.evs.drop i)) (fun i => x.evs.length - i) 0 ⟨rfl, rfl, rfl, rfl, rfl, trivial⟩ (Ent.refl _) ⟨Nat.zero_le _, rfl⟩ ?_
  rintro i ⟨hi, hg⟩
  (refine sw_seq (sw_region ?_); refine so_1 rfl ?_; refine so_nil (sn_then ?_); refine sw_seq ?_)
  refine sw_if rfl (fun c2 => ?_) (fun c2 => ?_)
  rotate_left
  · have hd : x.evs.drop i = [] := List.drop_of_length_le (by omega)
    rw [hd] at hg
    (refine sw_exit ?_; refine sn_then_exit ?_; refine sn_loop_exit ?_; refine sn_block_exit ?_; refine sn_then ?_; refine sw_seq (sw_region ?_); refine so_1 rfl ?_; refine so_nil (sn_then ?_); refine sw_ret ?_)
    refine sn_ret rfl (.tmp rfl .nil) (ent_keep 1 [] rfl rfl) ?_
    exact ⟨by rw [hg]; rfl, rfl⟩
  have h1 : i < x.evs.length := by omega
  obtain ⟨gg, oo, rfl⟩ := h4 (by omega)
  have hmem := List.getElem_mem h1
  have hc : ∀ w, Sat b F w → ∀ j, j < 39 → w.cell? ⟨gg, oo + i * 39 + j, none⟩ = (evC x.evs[i])[j]? := fun w H j hj => ev_cell (by have := (hx w H).ev; rw [hxv] at this; exact this) he32 h1 hj
  have her : ∀ w, Sat b F w → ER w x.evs[i] := fun w H => (hx w H).ev.er _ hmem
  have hew := hw.evs _ hmem
  have hel := hev _ hmem
  have hd : x.evs.drop i = x.evs[i] :: x.evs.drop (i + 1) := List.drop_eq_getElem_cons h1
  have hpn : prevE x.evs (i + 1) = some x.evs[i] := by
    unfold prevE; rw [if_neg (by omega), Nat.add_sub_cancel]; exact List.getElem?_eq_getElem h1
  rw [hd, giveT_cons] at hg
  generalize x.evs[i] = e at *
  have el := evC_len hew.l32
  refine sw_fact (fun w H => er_form (her w (H.ent (ent_keep 1 [] rfl rfl)))) ?_
  rintro ⟨o1, o2⟩
  have e1 := evC_one o1 o2
  (refine sw_skip ?_; refine sn_then ?_; refine sw_seq ?_; refine sw_block ?_; refine sw_seq (sw_region ?_); refine so_1 rfl ?_; refine so_2 rfl (by omega) ?_)
  refine so_rd rfl (fun w H => ex_loadN (cs := evC e) rfl rfl rfl el (fun j hj => by rw [el] at hj; rw [mulz_eq, Int.toNat_natCast]; exact hc w (H.ent (ent_keep 1 [] rfl rfl)) j hj)) rfl ?_
  refine so_new rfl rfl rfl rfl rfl fun g5 => ?_
  (refine so_1 rfl ?_)
  refine so_stW 0 rfl rfl rfl rfl rfl rfl rfl el e1 (by rw [el]; rfl) ?_
  (refine so_nil (sn_then ?_); (iterate 2 refine sw_seq ?_); refine sw_region ?_)
  refine so_ldA 0 rfl rfl rfl rfl rfl rfl (segO_all (by rw [el]; rfl)) rfl ?_
  (refine so_1 rfl ?_)
  refine so_ld 1 rfl rfl rfl rfl rfl rfl (lk_n h32) rfl ?_
  (refine so_1 rfl ?_)
  refine so_ld 1 rfl rfl rfl rfl rfl rfl (lk_w h32) rfl ?_
  refine so_callE rfl rfl rfl (Check_S (fun w H => her w (H.ent (ent_keep 2 [] rfl rfl))) hew hel) ?_
  (refine so_1 rfl ?_; refine so_nil (sn_then ?_); refine sw_seq (sw_region ?_); (iterate 2 refine so_1 rfl ?_); refine so_nil (sn_then ?_))
  refine sw_ifn rfl (fun c3 => ?_) (fun c3 => ?_)
  · rw [if_pos c3] at hg
    (refine sw_seq (sw_region ?_); (iterate 2 refine so_1 rfl ?_); refine so_nil (sn_then ?_); refine sw_ret ?_; refine sn_then_ret ?_; refine sn_block_ret ?_; refine sn_then_ret ?_; refine sn_loop_ret ?_; refine sn_block_ret ?_; refine sn_then_ret ?_)
    refine sn_ret rfl (.tmp rfl .nil) (ent_keep 2 [] rfl rfl) ?_
    exact ⟨by rw [hg]; rfl, rfl⟩
  rw [if_neg (not_not_intro c3)] at hg
  (refine sw_skip ?_; refine sn_then ?_; refine sw_seq ?_)
  refine sw_draw flo _ (by decide +kernel) (Ent.refl _) ?_
  ((iterate 3 refine sd_1 rfl (.inl rfl) ?_))
  refine sd_if 36 rfl (fun c4 => ?_) (fun c4 => ?_)
  rotate_left
  · have hp : prevE x.evs i = none := by unfold prevE; rw [if_pos (by omega)]
    rw [hp, if_neg (by simp [lateB])] at hg
    ((iterate 6 refine sd_1 rfl (.inl rfl) ?_); refine sd_1 rfl (.inr rfl) ?_; (iterate 2 refine sd_1 rfl (.inl rfl) ?_))
    refine sd_nil ?_
    (refine sn_then ?_; refine sw_cond_f rfl ?_; refine sw_skip ?_; refine sn_block ?_; refine sn_then ?_; refine sw_region ?_; refine so_2 rfl (by (unfold I64; omega)) ?_; refine so_1 rfl ?_; refine so_nil ?_)
    rw [show (i : Int) + 1 = ((i + 1 : Nat) : Int) by omega]
    exact sn_round (i + 1) ⟨rfl, rfl, rfl, rfl, rfl, trivial⟩ (ent_keep 2 [1] rfl rfl) ⟨h1, by rw [hg, hpn]⟩ (by omega)
  obtain ⟨m, rfl⟩ : ∃ m, i = m + 1 := ⟨i - 1, by omega⟩
  have hm : m < x.evs.length := by omega
  have hpv : prevE x.evs (m + 1) = some x.evs[m] := by
    unfold prevE; rw [if_neg (by omega), Nat.add_sub_cancel]; exact List.getElem?_eq_getElem hm
  have hc2 : ∀ w, Sat b F w → ∀ j, j < 39 → w.cell? ⟨gg, oo + m * 39 + j, none⟩ = (evC x.evs[m])[j]? := fun w H j hj => ev_cell (by have := (hx w H).ev; rw [hxv] at this; exact this) he32 hm hj
  have her2 : ∀ w, Sat b F w → ER w x.evs[m] := fun w H => (hx w H).ev.er _ (List.getElem_mem hm)
  have hm32 := he32 _ (List.getElem_mem hm)
  have epred : (((m + 1 : Nat) : Int) - 1).toNat = m := by omega
  rw [hpv] at hg
  generalize x.evs[m] = p at *
  have pl := evC_len hm32
  ((iterate 2 refine sd_1 rfl (.inl rfl) ?_); refine sd_2 rfl rfl (by (unfold I64; omega)) ?_; refine sd_2 rfl rfl (by omega) ?_)
  refine sd_rd rfl (fun w H => ex_loadN (cs := evC p) rfl rfl rfl pl (fun j hj => by rw [pl] at hj; rw [mulz_eq, epred]; exact hc2 w (H.ent (ent_keep 2 [] rfl rfl)) j hj)) rfl rfl ?_
  skip
  refine sd_ldA 0 rfl rfl rfl rfl rfl rfl (segO_all (by rw [el]; rfl)) rfl rfl ?_
  refine sd_callE rfl rfl rfl rfl (eLess_S (fun w H => her2 w (H.ent (ent_keep 2 [] rfl rfl))) (fun w H => her w (H.ent (ent_keep 2 [] rfl rfl)))) (Ent.refl _) ?_
  cases hq : evLt p e with
  | true =>
    rw [if_neg (by simp [lateB, hq])] at hg
    ((iterate 2 refine sd_1 rfl (.inl rfl) ?_))
    refine sd_nil ?_
    (refine sn_then ?_; refine sw_cond_f rfl ?_; refine sw_skip ?_; refine sn_block ?_; refine sn_then ?_; refine sw_region ?_; refine so_2 rfl (by (unfold I64; omega)) ?_; refine so_1 rfl ?_; refine so_nil ?_)
    rw [show ((m + 1 : Nat) : Int) + 1 = ((m + 1 + 1 : Nat) : Int) by omega]
    exact sn_round (m + 1 + 1) ⟨rfl, rfl, rfl, rfl, rfl, trivial⟩ (ent_keep 2 [1] rfl rfl) ⟨h1, by rw [hg, hpn]⟩ (by omega)
  | false =>
    rw [if_pos (by simp [lateB, hq])] at hg
    ((iterate 2 refine sd_1 rfl (.inl rfl) ?_))
    refine sd_nil ?_
    (refine sn_then ?_; refine sw_cond_t rfl ?_; refine sw_seq (sw_region ?_); refine so_1 rfl ?_; refine so_nil (sn_then ?_); refine sw_ret ?_; refine sn_block_ret ?_; refine sn_then_ret ?_; refine sn_loop_ret ?_; refine sn_block_ret ?_; refine sn_then_ret ?_)
    refine sn_ret rfl (.tmp rfl .nil) (ent_keep 2 [] rfl rfl) ?_
    exact ⟨by rw [hg]; rfl, rfl⟩
end
end Go.Proofs.YtmeiadgpglpelaaGreat
/- Letters: the program's Check. Conditions: numbers of 64 bits; not too much. -/
namespace Go.Proofs.YtmeiadgpglpelaaGreat
open Go Go.Eng Go.RowKit

theorem intMK : MK Tryz.prog t_int (Value.int .i64) (fun a => (Lit.int .i64 a).wf = true) where
  law := .int (q := .i64) (by kernel_rfl)
  of := fun a h => by
    have hu : Tryz.prog.underlying t_int = some (.int .i64) := by kernel_rfl
    exact ⟨.int .i64 a, by simp [keyOf, hu, mapKey, h]⟩
  inj := fun a c _ _ h => by injection h
/-- As flo; a look-up is told for an effect. -/
def flL (o : Oper) : Bool := match o.op with
  | .lookup .. => false
  | _ => flo o
section
variable {b : World} {F : List SP} {x : Lt} {n w0 : Int}
set_option maxRecDepth 20000 in
set_option maxHeartbeats 2000000 in
theorem ship_S (hx : ∀ w, Sat b F w → LR w x) (h32 : x.id.length = 32) (hl : x.bs.length ≤ 1000000) : SC Tryz.prog n_letter_looker_ship [lkV x n w0] b F (fun u F' => u = .int .i64 (if 0 < x.evs.length then 2 else if dotT x n w0 ≠ 0 then dotT x n w0 else if 4096 < x.bs.length then 4 else if cutR (sumM x.bs) w0 = x.id then 0 else 8) ∧ F' = F) := by
  refine enterS F_letter_looker_ship rfl rfl rfl ?_
  refine sw_fact (fun w H => sl_form (hx w H).ev.sl) ?_
  rintro ⟨A, c, hxv, _, _, _, h4, _⟩
  refine sw_fact (fun w H => (hx w H).bv.form) ?_
  rintro ⟨A2, c2, hbv, _, _, _, _⟩
  have hcl := cutR_len (sumM x.bs) w0 (sumM_len x.bs)
  (refine sw_seq (sw_region ?_))
  refine so_box rfl rfl rfl rfl rfl fun g1 => ?_
  (refine so_1 rfl ?_; refine so_nil (sn_then ?_); (iterate 2 refine sw_seq ?_); refine sw_region ?_; (iterate 2 refine so_1 rfl ?_); refine so_l 0 rfl rfl rfl ?_)
  rw [hxv]
  ((iterate 2 refine so_1 rfl ?_); refine so_nil (sn_then ?_))
  refine sw_if rfl (fun c1 => ?_) (fun c1 => ?_)
  · (refine sw_seq (sw_region ?_); refine so_1 rfl ?_; refine so_nil (sn_then ?_); refine sw_ret ?_; refine sn_then_ret ?_)
    refine sn_ret rfl (.tmp rfl .nil) (ent_keep 1 [] rfl rfl) ?_
    exact ⟨by rw [if_pos (by omega)]; rfl, rfl⟩
  rw [if_neg (by omega)]
  (refine sw_skip ?_; refine sn_then ?_; (iterate 2 refine sw_seq ?_); refine sw_region ?_)
  refine so_ldA 0 rfl rfl rfl rfl rfl rfl (segO_all (by rw [lk_len h32]; rfl)) rfl ?_
  refine so_callE rfl rfl rfl (dotted_S h32) ?_
  (refine so_1 rfl ?_; refine so_nil (sn_then ?_); refine sw_seq (sw_region ?_); (iterate 2 refine so_1 rfl ?_); refine so_nil (sn_then ?_))
  refine sw_ifn rfl (fun c3 => ?_) (fun c3 => ?_)
  · rw [if_pos c3]
    (refine sw_seq (sw_region ?_); (iterate 2 refine so_1 rfl ?_); refine so_nil (sn_then ?_); refine sw_ret ?_; refine sn_then_ret ?_)
    refine sn_ret rfl (.tmp rfl .nil) (ent_keep 1 [] rfl rfl) ?_
    exact ⟨rfl, rfl⟩
  rw [if_neg (not_not_intro c3)]
  (refine sw_skip ?_; refine sn_then ?_; (iterate 2 refine sw_seq ?_); refine sw_region ?_; (iterate 2 refine so_1 rfl ?_))
  refine so_ld 0 rfl rfl rfl rfl rfl rfl (lk_bv h32) rfl ?_
  rw [hbv]
  ((iterate 2 refine so_1 rfl ?_); refine so_nil (sn_then ?_))
  refine sw_if rfl (fun c4 => ?_) (fun c4 => ?_)
  · (refine sw_seq (sw_region ?_); refine so_1 rfl ?_; refine so_nil (sn_then ?_); refine sw_ret ?_; refine sn_then_ret ?_)
    refine sn_ret rfl (.tmp rfl .nil) (ent_keep 1 [] rfl rfl) ?_
    exact ⟨by rw [if_pos (by omega)]; rfl, rfl⟩
  rw [if_neg (by omega)]
  (refine sw_skip ?_; refine sn_then ?_; (iterate 2 refine sw_seq ?_); refine sw_region ?_; (iterate 2 refine so_1 rfl ?_))
  refine so_ld 0 rfl rfl rfl rfl rfl rfl (lk_bv h32) rfl ?_
  rw [hbv]
  (refine so_1 rfl ?_)
  refine so_ld 0 rfl rfl rfl rfl rfl rfl (lk_w h32) rfl ?_
  refine so_callE rfl rfl rfl (Of_S hl (fun w H => by have := (hx w (H.ent (ent_keep 1 [] rfl rfl))).bv; rw [hbv] at this; exact this)) ?_
  ((iterate 3 refine so_1 rfl ?_))
  refine so_new rfl rfl rfl rfl rfl fun g4 => ?_
  refine so_stW 0 rfl rfl rfl rfl rfl rfl rfl (by rw [u8s_len, hcl]; rfl) (u8s_one _) (by simp [hcl]) ?_
  (refine so_1 rfl ?_; refine so_nil (sn_then ?_); refine sw_seq (sw_region ?_))
  refine so_ldA 0 rfl rfl rfl rfl rfl rfl (segID hcl) rfl ?_
  ((iterate 2 refine so_1 rfl ?_))
  refine so_ldA 1 rfl rfl rfl rfl rfl rfl (lk_id h32) rfl ?_
  refine so_pu rfl (pu_neI (as00 := cutR (sumM x.bs) w0) (bs := x.id) rfl rfl hcl h32) rfl ?_
  by_cases c5 : cutR (sumM x.bs) w0 = x.id
  · rw [if_pos c5]
    refine so_know 34 (.bool false) rfl (by rw [decide_eq_true c5]; rfl) ?_
    (refine so_nil (sn_then ?_); refine sw_cond_f rfl ?_; refine sw_skip ?_; refine sn_then ?_; refine sw_seq (sw_region ?_); refine so_1 rfl ?_; refine so_nil (sn_then ?_); refine sw_ret ?_)
    refine sn_ret rfl (.tmp rfl .nil) (ent_keep 2 [] rfl rfl) ?_
    exact ⟨rfl, rfl⟩
  · rw [if_neg c5]
    refine so_know 34 (.bool true) rfl (by rw [decide_eq_false c5]; rfl) ?_
    (refine so_nil (sn_then ?_); refine sw_cond_t rfl ?_; refine sw_seq (sw_region ?_); refine so_1 rfl ?_; refine so_nil (sn_then ?_); refine sw_ret ?_; refine sn_then_ret ?_)
    refine sn_ret rfl (.tmp rfl .nil) (ent_keep 2 [] rfl rfl) ?_
    exact ⟨rfl, rfl⟩
abbrev wayV (f : Nat) (x : Lt) (n w : Int) : Value := .func (.func f) ⟨[lkV x n w]⟩ ⟨[]⟩
abbrev wayL (x : Lt) (n w : Int) : List (Int × Value) := [(1, wayV n_letter_looker_note x n w), (2, wayV n_letter_looker_ask x n w), (3, wayV n_letter_looker_give x n w), (4, wayV n_letter_looker_need x n w), (5, wayV n_letter_looker_ship x n w)]
abbrev okI (a : Int) : Prop := (Lit.int .i64 a).wf = true
set_option maxRecDepth 20000 in
theorem ways_S (h32 : x.id.length = 32) : SC Tryz.prog n_letter_looker_ways [lkV x n w0] b F (fun u F' => ∃ gm, u = .map (some gm) ∧ F' = mp gm (Value.int .i64) okI (wayL x n w0) :: F) := by
  have ll := lk_len (x := x) (n := n) (w := w0) h32
  refine enterS F_letter_looker_ways rfl rfl rfl ?_
  (refine sw_seq (sw_region ?_))
  refine so_box rfl rfl rfl rfl rfl fun g1 => ?_
  (refine so_1 rfl ?_; refine so_nil (sn_then ?_); refine sw_seq (sw_region ?_))
  refine so_mkmap (Value.int .i64) okI rfl rfl rfl fun gm => ?_
  refine so_ldA 1 rfl rfl rfl rfl rfl rfl (segO_all (by rw [ll]; rfl)) rfl ?_
  (refine so_1 rfl ?_)
  refine so_ins (a := (1 : Int)) 0 intMK rfl rfl rfl rfl rfl rfl rfl rfl rfl ?_
  refine so_ldA 1 rfl rfl rfl rfl rfl rfl (segO_all (by rw [ll]; rfl)) rfl ?_
  (refine so_1 rfl ?_)
  refine so_ins (a := (2 : Int)) 0 intMK rfl rfl rfl rfl rfl rfl rfl rfl rfl ?_
  refine so_ldA 1 rfl rfl rfl rfl rfl rfl (segO_all (by rw [ll]; rfl)) rfl ?_
  (refine so_1 rfl ?_)
  refine so_ins (a := (3 : Int)) 0 intMK rfl rfl rfl rfl rfl rfl rfl rfl rfl ?_
  refine so_ldA 1 rfl rfl rfl rfl rfl rfl (segO_all (by rw [ll]; rfl)) rfl ?_
  (refine so_1 rfl ?_)
  refine so_ins (a := (4 : Int)) 0 intMK rfl rfl rfl rfl rfl rfl rfl rfl rfl ?_
  refine so_ldA 1 rfl rfl rfl rfl rfl rfl (segO_all (by rw [ll]; rfl)) rfl ?_
  (refine so_1 rfl ?_)
  refine so_ins (a := (5 : Int)) 0 intMK rfl rfl rfl rfl rfl rfl rfl rfl rfl ?_
  ((iterate 2 refine so_1 rfl ?_); refine so_nil (sn_then ?_); refine sw_ret ?_)
  refine sn_ret rfl (.tmp rfl .nil) (ent_keep 2 [0] rfl rfl) ?_
  exact ⟨gm, rfl, rfl⟩
end
end Go.Proofs.YtmeiadgpglpelaaGreat
/- Letters: the program's Check. Conditions: numbers of 64 bits; not too much. -/
namespace Go.Proofs.YtmeiadgpglpelaaGreat
open Go Go.Eng Go.RowKit

theorem lk_one {x : Lt} {n w : Int} (h : ∀ u ∈ ltC x, u.oneCell' = true) : ∀ u ∈ lkC x n w, u.oneCell' = true := by
  intro u hu
  rcases List.mem_append.1 hu with hu | hu
  · exact h u hu
  · simp only [List.mem_cons, List.not_mem_nil, or_false] at hu
    rcases hu with rfl | rfl <;> rfl
theorem lk_some {P : Program} {E : List (Nat × Value)} {op : Op} {ty : TypeId} {w w' : World} {L : List (Int × Value)} {a : Int} {v z : Value} (h : getM a L = some v) (hx : Ex P E op ty w (if true then .tuple #[(getM a L).getD z, .bool (getM a L).isSome] else (getM a L).getD z) w') : Ex P E op ty w (.tuple ⟨[v, .bool true]⟩) w' := by
  rw [h] at hx; exact hx
theorem lk_none {P : Program} {E : List (Nat × Value)} {op : Op} {ty : TypeId} {w w' : World} {L : List (Int × Value)} {a : Int} {z : Value} (h : getM a L = none) (hx : Ex P E op ty w (if true then .tuple #[(getM a L).getD z, .bool (getM a L).isSome] else (getM a L).getD z) w') : Ex P E op ty w (.tuple ⟨[z, .bool false]⟩) w' := by
  rw [h] at hx; exact hx
section
variable {b : World} {F : List SP} {x : Lt} {n w0 : Int}
set_option maxRecDepth 20000 in
set_option maxHeartbeats 4000000 in
theorem CheckT_S (hx : ∀ w, Sat b F w → LR w x) (hw : LW x) (hev : ∀ e ∈ x.evs, EvL e) (hs : x.seen.length ≤ 1000000) (hbl : x.bs.length ≤ 1000000) : SC Tryz.prog n_letter_Check [ltV x, .int .i64 n, .int .i64 w0] b F (fun u F' => u = .int .i64 (chkT x n w0) ∧ F' = F) := by
  have h32 := hw.id.1
  have hkw : okI x.kind := (i64wf _).2 hw.kind
  have ll := lk_len (x := x) (n := n) (w := w0) h32
  refine enterS F_letter_Check rfl rfl rfl ?_
  refine sw_fact (fun w H => lr_form (hx w H)) ?_
  rintro ⟨q1, q2, q3⟩
  have xl := ltC_len h32
  have x1 := ltC_one q1 q2 q3
  (refine sw_seq (sw_region ?_))
  refine so_box rfl rfl rfl rfl rfl fun g3 => ?_
  (refine so_1 rfl ?_; refine so_nil (sn_then ?_); (iterate 2 refine sw_seq ?_); refine sw_region ?_; (iterate 3 refine so_1 rfl ?_))
  refine so_if 12 rfl (fun k1 => ?_) (fun k1 => ?_)
  · have hr : chkT x n w0 = 3 := by unfold chkT; rw [if_pos (by omega)]
    ((iterate 11 refine so_1 rfl ?_); refine so_nil (sn_then ?_); refine sw_cond_t rfl ?_; refine sw_seq (sw_region ?_); refine so_1 rfl ?_; refine so_nil (sn_then ?_); refine sw_ret ?_; refine sn_then_ret ?_)
    refine sn_ret rfl (.tmp rfl .nil) (ent_keep 1 [] rfl rfl) ?_
    rw [hr]; exact ⟨rfl, rfl⟩
  ((iterate 4 refine so_1 rfl ?_))
  refine so_if 16 rfl (fun k2 => ?_) (fun k2 => ?_)
  · have hr : chkT x n w0 = 3 := by unfold chkT; rw [if_pos (by omega)]
    ((iterate 7 refine so_1 rfl ?_); refine so_nil (sn_then ?_); refine sw_cond_t rfl ?_; refine sw_seq (sw_region ?_); refine so_1 rfl ?_; refine so_nil (sn_then ?_); refine sw_ret ?_; refine sn_then_ret ?_)
    refine sn_ret rfl (.tmp rfl .nil) (ent_keep 1 [] rfl rfl) ?_
    rw [hr]; exact ⟨rfl, rfl⟩
  ((iterate 4 refine so_1 rfl ?_))
  refine so_if 20 rfl (fun k3 => ?_) (fun k3 => ?_)
  · have hr : chkT x n w0 = 3 := by unfold chkT; rw [if_pos (by omega)]
    ((iterate 3 refine so_1 rfl ?_); refine so_nil (sn_then ?_); refine sw_cond_t rfl ?_; refine sw_seq (sw_region ?_); refine so_1 rfl ?_; refine so_nil (sn_then ?_); refine sw_ret ?_; refine sn_then_ret ?_)
    refine sn_ret rfl (.tmp rfl .nil) (ent_keep 1 [] rfl rfl) ?_
    rw [hr]; exact ⟨rfl, rfl⟩
  ((iterate 3 refine so_1 rfl ?_); refine so_nil (sn_then ?_))
  refine sw_if rfl (fun k4 => ?_) (fun k4 => ?_)
  · have hr : chkT x n w0 = 3 := by unfold chkT; rw [if_pos (by omega)]
    (refine sw_seq (sw_region ?_); refine so_1 rfl ?_; refine so_nil (sn_then ?_); refine sw_ret ?_; refine sn_then_ret ?_)
    refine sn_ret rfl (.tmp rfl .nil) (ent_keep 1 [] rfl rfl) ?_
    rw [hr]; exact ⟨rfl, rfl⟩
  (refine sw_skip ?_; refine sn_then ?_; refine sw_seq (sw_region ?_))
  refine so_ldA 0 rfl rfl rfl rfl rfl rfl (segO_all (by rw [xl]; rfl)) rfl ?_
  ((iterate 2 refine so_1 rfl ?_))
  refine so_B rfl rfl rfl ⟨(by show (ltC x).length = _; rw [xl]; rfl), rfl, rfl, trivial⟩ ?_
  refine so_know 27 (lkV x n w0) rfl rfl ?_
  refine so_new rfl rfl rfl rfl rfl fun g7 => ?_
  refine so_stW 0 rfl rfl rfl rfl rfl rfl rfl ll (lk_one x1) (by rw [ll]; rfl) ?_
  (refine so_nil (sn_then ?_); (iterate 2 refine sw_seq ?_); refine sw_region ?_)
  refine so_ldA 0 rfl rfl rfl rfl rfl rfl (segO_all (by rw [ll]; rfl)) rfl ?_
  refine so_callE rfl rfl rfl (headed_S h32 (fun w H => hx w (H.ent (ent_keep 2 [] rfl rfl))) hs) ?_
  cases hh : headT x n with
  | false =>
    have hr : chkT x n w0 = 2 := by unfold chkT; rw [if_neg (by omega), if_pos hh]
    (refine so_1 rfl ?_; refine so_nil (sn_then ?_); refine sw_cond_t rfl ?_; refine sw_seq (sw_region ?_); refine so_1 rfl ?_; refine so_nil (sn_then ?_); refine sw_ret ?_; refine sn_then_ret ?_)
    refine sn_ret rfl (.tmp rfl .nil) (ent_keep 2 [] rfl rfl) ?_
    rw [hr]; exact ⟨rfl, rfl⟩
  | true =>
  (refine so_1 rfl ?_; refine so_nil (sn_then ?_); refine sw_cond_f rfl ?_; refine sw_skip ?_; refine sn_then ?_; refine sw_seq ?_)
  refine sw_draw flL _ (by decide +kernel) (Ent.refl _) ?_
  skip
  refine sd_ldA 0 rfl rfl rfl rfl rfl rfl (segO_all (by rw [ll]; rfl)) rfl rfl ?_
  refine sd_call rfl rfl rfl rfl (ways_S h32) ?_
  rintro _ _ ⟨gm, rfl, rfl⟩
  refine ⟨ent_keep 3 [1, 2] rfl rfl, ?_⟩
  (refine sd_1 rfl (.inl rfl) ?_; refine sd_l 1 rfl rfl rfl rfl ?_)
  by_cases hk1 : x.kind = 1
  · have hk := hk1
    have hr : chkT x n w0 = kindT x n w0 := by unfold chkT; rw [if_neg (by omega), if_neg (by rw [hh]; simp), if_neg (by omega)]
    have hgm : getM x.kind (wayL x n w0) = some (wayV n_letter_looker_note x n w0) := by rw [hk]; rfl
    refine sd_exv (v := .tuple ⟨[wayV n_letter_looker_note x n w0, .bool true]⟩) rfl rfl rfl (fun w H => ⟨w, lk_some hgm (ex_look (c := true) (a := x.kind) (q := 0) intMK rfl rfl rfl rfl hkw rfl w H), H⟩) (ent_keep 3 [1, 2] rfl rfl) ?_
    ((iterate 5 refine sd_1 rfl (.inl rfl) ?_))
    refine sd_nil ?_
    (refine sn_then ?_; (iterate 2 refine sw_seq ?_); refine sw_region ?_; (iterate 2 refine so_1 rfl ?_); refine so_nil (sn_then ?_); refine sw_cond_f rfl ?_; refine sw_skip ?_; refine sn_then ?_; refine sw_seq (sw_region ?_); refine so_1 rfl ?_)
    refine so_callE rfl rfl rfl (note_S (fun w H => hx w (H.ent (ent_keep 3 [] rfl rfl))) hw hev) ?_
    (refine so_1 rfl ?_; refine so_nil (sn_then ?_); refine sw_ret ?_)
    refine sn_ret rfl (.tmp rfl .nil) (ent_keep 3 [] rfl rfl) ?_
    refine ⟨?_, rfl⟩
    rw [hr]; unfold kindT; rw [if_pos hk]; rfl
  by_cases hk2 : x.kind = 2
  · have hk := hk2
    have hr : chkT x n w0 = kindT x n w0 := by unfold chkT; rw [if_neg (by omega), if_neg (by rw [hh]; simp), if_neg (by omega)]
    have hgm : getM x.kind (wayL x n w0) = some (wayV n_letter_looker_ask x n w0) := by rw [hk]; rfl
    refine sd_exv (v := .tuple ⟨[wayV n_letter_looker_ask x n w0, .bool true]⟩) rfl rfl rfl (fun w H => ⟨w, lk_some hgm (ex_look (c := true) (a := x.kind) (q := 0) intMK rfl rfl rfl rfl hkw rfl w H), H⟩) (ent_keep 3 [1, 2] rfl rfl) ?_
    ((iterate 5 refine sd_1 rfl (.inl rfl) ?_))
    refine sd_nil ?_
    (refine sn_then ?_; (iterate 2 refine sw_seq ?_); refine sw_region ?_; (iterate 2 refine so_1 rfl ?_); refine so_nil (sn_then ?_); refine sw_cond_f rfl ?_; refine sw_skip ?_; refine sn_then ?_; refine sw_seq (sw_region ?_); refine so_1 rfl ?_)
    refine so_callE rfl rfl rfl (ask_S (fun w H => hx w (H.ent (ent_keep 3 [] rfl rfl))) h32) ?_
    (refine so_1 rfl ?_; refine so_nil (sn_then ?_); refine sw_ret ?_)
    refine sn_ret rfl (.tmp rfl .nil) (ent_keep 3 [] rfl rfl) ?_
    refine ⟨?_, rfl⟩
    rw [hr]; unfold kindT; rw [if_neg (show ¬ x.kind = 1 by omega), if_pos hk]; rfl
  by_cases hk3 : x.kind = 3
  · have hk := hk3
    have hr : chkT x n w0 = kindT x n w0 := by unfold chkT; rw [if_neg (by omega), if_neg (by rw [hh]; simp), if_neg (by omega)]
    have hgm : getM x.kind (wayL x n w0) = some (wayV n_letter_looker_give x n w0) := by rw [hk]; rfl
    refine sd_exv (v := .tuple ⟨[wayV n_letter_looker_give x n w0, .bool true]⟩) rfl rfl rfl (fun w H => ⟨w, lk_some hgm (ex_look (c := true) (a := x.kind) (q := 0) intMK rfl rfl rfl rfl hkw rfl w H), H⟩) (ent_keep 3 [1, 2] rfl rfl) ?_
    ((iterate 5 refine sd_1 rfl (.inl rfl) ?_))
    refine sd_nil ?_
    (refine sn_then ?_; (iterate 2 refine sw_seq ?_); refine sw_region ?_; (iterate 2 refine so_1 rfl ?_); refine so_nil (sn_then ?_); refine sw_cond_f rfl ?_; refine sw_skip ?_; refine sn_then ?_; refine sw_seq (sw_region ?_); refine so_1 rfl ?_)
    refine so_callE rfl rfl rfl (give_S (fun w H => hx w (H.ent (ent_keep 3 [] rfl rfl))) hw hev) ?_
    (refine so_1 rfl ?_; refine so_nil (sn_then ?_); refine sw_ret ?_)
    refine sn_ret rfl (.tmp rfl .nil) (ent_keep 3 [] rfl rfl) ?_
    refine ⟨?_, rfl⟩
    rw [hr]; unfold kindT; rw [if_neg (show ¬ x.kind = 1 by omega), if_neg (show ¬ x.kind = 2 by omega), if_pos hk]; rfl
  by_cases hk4 : x.kind = 4
  · have hk := hk4
    have hr : chkT x n w0 = kindT x n w0 := by unfold chkT; rw [if_neg (by omega), if_neg (by rw [hh]; simp), if_neg (by omega)]
    have hgm : getM x.kind (wayL x n w0) = some (wayV n_letter_looker_need x n w0) := by rw [hk]; rfl
    refine sd_exv (v := .tuple ⟨[wayV n_letter_looker_need x n w0, .bool true]⟩) rfl rfl rfl (fun w H => ⟨w, lk_some hgm (ex_look (c := true) (a := x.kind) (q := 0) intMK rfl rfl rfl rfl hkw rfl w H), H⟩) (ent_keep 3 [1, 2] rfl rfl) ?_
    ((iterate 5 refine sd_1 rfl (.inl rfl) ?_))
    refine sd_nil ?_
    (refine sn_then ?_; (iterate 2 refine sw_seq ?_); refine sw_region ?_; (iterate 2 refine so_1 rfl ?_); refine so_nil (sn_then ?_); refine sw_cond_f rfl ?_; refine sw_skip ?_; refine sn_then ?_; refine sw_seq (sw_region ?_); refine so_1 rfl ?_)
    refine so_callE rfl rfl rfl (need_S (fun w H => hx w (H.ent (ent_keep 3 [] rfl rfl))) h32) ?_
    (refine so_1 rfl ?_; refine so_nil (sn_then ?_); refine sw_ret ?_)
    refine sn_ret rfl (.tmp rfl .nil) (ent_keep 3 [] rfl rfl) ?_
    refine ⟨?_, rfl⟩
    rw [hr]; unfold kindT; rw [if_neg (show ¬ x.kind = 1 by omega), if_neg (show ¬ x.kind = 2 by omega), if_neg (show ¬ x.kind = 3 by omega), if_pos hk]; rfl
  by_cases hk5 : x.kind = 5
  · have hk := hk5
    have hr : chkT x n w0 = kindT x n w0 := by unfold chkT; rw [if_neg (by omega), if_neg (by rw [hh]; simp), if_neg (by omega)]
    have hgm : getM x.kind (wayL x n w0) = some (wayV n_letter_looker_ship x n w0) := by rw [hk]; rfl
    refine sd_exv (v := .tuple ⟨[wayV n_letter_looker_ship x n w0, .bool true]⟩) rfl rfl rfl (fun w H => ⟨w, lk_some hgm (ex_look (c := true) (a := x.kind) (q := 0) intMK rfl rfl rfl rfl hkw rfl w H), H⟩) (ent_keep 3 [1, 2] rfl rfl) ?_
    ((iterate 5 refine sd_1 rfl (.inl rfl) ?_))
    refine sd_nil ?_
    (refine sn_then ?_; (iterate 2 refine sw_seq ?_); refine sw_region ?_; (iterate 2 refine so_1 rfl ?_); refine so_nil (sn_then ?_); refine sw_cond_f rfl ?_; refine sw_skip ?_; refine sn_then ?_; refine sw_seq (sw_region ?_); refine so_1 rfl ?_)
    refine so_callE rfl rfl rfl (ship_S (fun w H => hx w (H.ent (ent_keep 3 [] rfl rfl))) h32 hbl) ?_
    (refine so_1 rfl ?_; refine so_nil (sn_then ?_); refine sw_ret ?_)
    refine sn_ret rfl (.tmp rfl .nil) (ent_keep 3 [] rfl rfl) ?_
    refine ⟨?_, rfl⟩
    rw [hr]; unfold kindT; rw [if_neg (show ¬ x.kind = 1 by omega), if_neg (show ¬ x.kind = 2 by omega), if_neg (show ¬ x.kind = 3 by omega), if_neg (show ¬ x.kind = 4 by omega)]; rfl
  have hr : chkT x n w0 = 5 := by unfold chkT; rw [if_neg (by omega), if_neg (by rw [hh]; simp), if_pos (by omega)]
  have hgm : getM x.kind (wayL x n w0) = none := by
    simp only [wayL, getM]
    rw [if_neg (fun h => hk1 h.symm), if_neg (fun h => hk2 h.symm), if_neg (fun h => hk3 h.symm), if_neg (fun h => hk4 h.symm), if_neg (fun h => hk5 h.symm)]
  refine sd_exv rfl rfl rfl (fun w H => ⟨w, lk_none hgm (ex_look (c := true) (a := x.kind) (q := 0) intMK rfl rfl rfl rfl hkw rfl w H), H⟩) (ent_keep 3 [1, 2] rfl rfl) ?_
  ((iterate 5 refine sd_1 rfl (.inl rfl) ?_))
  refine sd_nil ?_
  (refine sn_then ?_; (iterate 2 refine sw_seq ?_); refine sw_region ?_; (iterate 2 refine so_1 rfl ?_); refine so_nil (sn_then ?_); refine sw_cond_t rfl ?_; refine sw_seq (sw_region ?_); refine so_1 rfl ?_; refine so_nil (sn_then ?_); refine sw_ret ?_; refine sn_then_ret ?_)
  refine sn_ret rfl (.tmp rfl .nil) (ent_keep 3 [] rfl rfl) ?_
  rw [hr]; exact ⟨rfl, rfl⟩
end
end Go.Proofs.YtmeiadgpglpelaaGreat
/- Letters as bytes: what was written is read as it was; cut off or longer it is none. Conditions: stated in each. -/
namespace Go.Proofs.YtmeiadgpglpelaaGreat
open Go Go.Eng Go.RowKit

/-! ## The reader of a letter, as one -/
def lId (B : List Int) (s : RS) : (List Int × List Int) × RS := (((rID B s).1, (rBytes B 4096 (rID B s).2).1), (rBytes B 4096 (rID B s).2).2)
def lDot (B : List Int) (s : RS) : ((Int × Int) × List Int × List Int) × RS := (((rDot B s).1, (lId B (rDot B s).2).1), (lId B (rDot B s).2).2)
def lEv (n : Nat) (B : List Int) (s : RS) : ((List Ev × Option Int) × (Int × Int) × List Int × List Int) × RS := (((rEvs B n s).1, (lDot B (rEvs B n s).2).1), (lDot B (rEvs B n s).2).2)
def lNum (B : List Int) (s : RS) : (Int × (List Ev × Option Int) × (Int × Int) × List Int × List Int) × RS := (((rNum B s).1, (lEv (rNum B s).1.toNat B (rNum B s).2).1), (lEv (rNum B s).1.toNat B (rNum B s).2).2)
def lSeen (B : List Int) (s : RS) : (List Int × Int × (List Ev × Option Int) × (Int × Int) × List Int × List Int) × RS := (((rVec B 16 s).1, (lNum B (rVec B 16 s).2).1), (lNum B (rVec B 16 s).2).2)
def lTo (B : List Int) (s : RS) : (Int × List Int × Int × (List Ev × Option Int) × (Int × Int) × List Int × List Int) × RS := (((rNum B s).1, (lSeen B (rNum B s).2).1), (lSeen B (rNum B s).2).2)
def lFrom (B : List Int) (s : RS) : (Int × Int × List Int × Int × (List Ev × Option Int) × (Int × Int) × List Int × List Int) × RS := (((rNum B s).1, (lTo B (rNum B s).2).1), (lTo B (rNum B s).2).2)
def lAll (B : List Int) (s : RS) : (Int × Int × Int × List Int × Int × (List Ev × Option Int) × (Int × Int) × List Int × List Int) × RS := (((rNum B s).1, (lFrom B (rNum B s).2).1), (lFrom B (rNum B s).2).2)
theorem go_lId : Go1 lId := Go1.then (k := fun _ a c => (a.1, c.1)) go_id (fun _ _ => go_bytes 4096)
theorem go_lDot : Go1 lDot := Go1.then (k := fun _ a c => (a.1, c.1)) go_dot (fun _ _ => go_lId)
theorem go_lEv (n : Nat) : Go1 (lEv n) := Go1.then (k := fun _ a c => (a.1, c.1)) (go_evs n) (fun _ _ => go_lDot)
theorem go_lNum : Go1 lNum := Go1.then (k := fun _ a c => (a.1, c.1)) go_num (fun a _ => go_lEv a.toNat)
theorem go_lSeen : Go1 lSeen := Go1.then (k := fun _ a c => (a.1, c.1)) (go_vec 16) (fun _ _ => go_lNum)
theorem go_lTo : Go1 lTo := Go1.then (k := fun _ a c => (a.1, c.1)) go_num (fun _ _ => go_lSeen)
theorem go_lFrom : Go1 lFrom := Go1.then (k := fun _ a c => (a.1, c.1)) go_num (fun _ _ => go_lTo)
theorem go_lAll : Go1 lAll := Go1.then (k := fun _ a c => (a.1, c.1)) go_num (fun _ _ => go_lFrom)
abbrev lCount (x : Int × Int × Int × List Int × Int × (List Ev × Option Int) × (Int × Int) × List Int × List Int) : Int := x.2.2.2.2.1
abbrev lEvs (x : Int × Int × Int × List Int × Int × (List Ev × Option Int) × (Int × Int) × List Int × List Int) : List Ev × Option Int := x.2.2.2.2.2.1
def lLt (x : Int × Int × Int × List Int × Int × (List Ev × Option Int) × (Int × Int) × List Int × List Int) : Lt :=
  ⟨x.1, x.2.1, x.2.2.1, nS, x.2.2.2.1, nS, x.2.2.2.2.2.1.1, x.2.2.2.2.2.2.1.1, x.2.2.2.2.2.2.1.2, x.2.2.2.2.2.2.2.1, nS, x.2.2.2.2.2.2.2.2⟩
theorem decT_eq {B : List Int} (h : B.length ≤ 262144) : decT B = if 8 < lCount (lAll B r0).1 then (ltZ, 4, B.length - rRest B (rVec B 16 (rNum B (rNum B (rNum B r0).2).2).2).2)
    else decTm (if (rEnd B (lAll B r0).2).1 ≠ 0 then (ltZ, rEnd B (lAll B r0).2) else (lLt (lAll B r0).1, 0, 0)) (lEvs (lAll B r0).1).2 := by
  unfold decT; rw [if_neg (by omega)]; rfl
theorem decT_ok {B : List Int} (h : (decT B).2.1 = 0) : B.length ≤ 262144 ∧ (lAll B r0).2.e = 0 ∧ (lAll B r0).2.at' = B.length ∧ lCount (lAll B r0).1 ≤ 8 ∧ (lEvs (lAll B r0).1).2 = none ∧ decT B = (lLt (lAll B r0).1, 0, 0) := by
  by_cases h1 : 262144 < B.length
  · unfold decT at h; rw [if_pos h1] at h; simp at h
  rw [decT_eq (by omega)] at h ⊢
  by_cases h3 : 8 < lCount (lAll B r0).1
  · rw [if_pos h3] at h; simp at h
  rw [if_neg h3] at h ⊢
  cases h5 : (lEvs (lAll B r0).1).2 with
  | some a => rw [h5] at h; simp [decTm] at h
  | none =>
    rw [h5] at h
    simp only [decTm] at h ⊢
    by_cases h4 : (rEnd B (lAll B r0).2).1 ≠ 0
    · rw [if_pos h4] at h; exact absurd h h4
    rw [if_neg h4]
    simp only [ne_eq, Decidable.not_not] at h4
    unfold rEnd at h4
    by_cases h6 : (lAll B r0).2.e = 0 ∧ (lAll B r0).2.at' < B.length
    · rw [if_pos h6] at h4; simp at h4
    rw [if_neg h6] at h4
    dsimp only at h4
    obtain ⟨_, g2, _, _⟩ := go_lAll.go B [] r0 h4 (Nat.zero_le _)
    exact ⟨by omega, h4, by omega, by omega, trivial, rfl⟩
theorem decT_cut {B : List Int} {k : Nat} (h : (decT B).2.1 = 0) (hk : k < B.length) : (decT (B.take k)).2.1 ≠ 0 := by
  intro h2
  obtain ⟨_, a1, a2, _⟩ := decT_ok h
  obtain ⟨_, c1, c2, _⟩ := decT_ok h2
  obtain ⟨g1, g2, _, _⟩ := go_lAll.go (B.take k) (B.drop k) r0 c1 (Nat.zero_le _)
  rw [List.take_append_drop] at g1
  rw [g1] at a2
  simp at g2 c2
  omega
theorem decT_more {B : List Int} (h : (decT B).2.1 = 0) (x : Int) : (decT (B ++ [x])).2 = (4, (B.length : Int)) := by
  obtain ⟨h1, h2, h3, h4, h5, _⟩ := decT_ok h
  obtain ⟨g1, g2, _, g4⟩ := go_lAll.go B [x] r0 h2 (Nat.zero_le _)
  by_cases h6 : 262144 < (B ++ [x]).length
  · unfold decT; rw [if_pos h6]; simp at h6; show (4, (262144 : Int)) = _; congr 1; omega
  rw [decT_eq (by omega), g1, if_neg (by omega), h5]
  have : rEnd (B ++ [x]) (lAll B r0).2 = (4, (B.length : Int)) := by
    unfold rEnd; rw [if_pos ⟨h2, by rw [h3]; simp⟩, h3]
  rw [decTm, this]; simp

/-! ## What was written is read -/
/-- An event that is encoded, and decoded as it was. -/
structure EvB (e : Ev) : Prop where
  n : EvN e
  ok : (encE e).2 = 0
  d : e.deps.length ≤ 16
  p : (strI e.repo).length ≤ 128
  t : (strI e.tag).length ≤ 64
theorem EvB.dec {e : Ev} (h : EvB e) : decE (encE e).1 = (nE e, 0, 0) := by rw [(encE_ok h.ok).2.1]; exact dec_enc h.n h.ok h.d h.p h.t
theorem EvB.of {e : Ev} {n w : Int} (h : chkE e n w = 0) (hN : EvN e) : EvB e := by
  have o := chk_ok h
  exact ⟨hN, (chk_enc h hN).1, by have := o.dl; have := o.n1; omega, o.repo, o.tag⟩
theorem evs_at {B : List Int} {i : Nat} {l : List Ev} {fa : Int} (h : At B i (l.map fun e => numB (encE e).1.length ++ (encE e).1).flatten) (h0 : ∀ e ∈ l, EvB e) :
    rEvs B l.length ⟨i, 0, fa⟩ = ((l.map nE, none), ⟨i + (l.map fun e => numB (encE e).1.length ++ (encE e).1).flatten.length, 0, fa⟩) := by
  induction l generalizing i with
  | nil => rfl
  | cons e l ih =>
    simp only [List.map_cons, List.flatten_cons] at h ⊢
    obtain ⟨ha, hb⟩ := h.app
    have he := h0 e List.mem_cons_self
    have hl := enc_len e
    simp only [List.length_cons, rEvs, bytes_at ha (most := 16384) (by omega) (by omega), he.dec]
    rw [ih hb fun f hf => h0 f (List.mem_cons_of_mem _ hf)]
    simp [Nat.add_assoc]
def ltB (x : Lt) : List Int := numB x.kind ++ (numB x.from' ++ (numB x.to' ++ ((numB x.seen.length ++ (x.seen.map numB).flatten) ++ (numB x.evs.length ++ ((x.evs.map fun e => numB (encE e).1.length ++ (encE e).1).flatten ++ ((numB x.r ++ numB x.n) ++ (x.id ++ (numB x.bs.length ++ x.bs))))))))
theorem encTB_eq (x : Lt) : encTB x = ltB x := by
  unfold encTB encTL ltB
  simp only [encTH, List.map_append, List.map_map, List.flatten_append]
  simp [pDot, pVec, pNum, pBytes, pID, Function.comp_def]
theorem firstE_ok {l : List Ev} (h : firstE l = 0) : ∀ e ∈ l, (encE e).2 = 0 := by
  induction l with
  | nil => exact fun _ h => by cases h
  | cons e l ih =>
    unfold firstE at h
    by_cases h1 : (encE e).2 ≠ 0
    · rw [if_pos h1] at h; exact absurd h h1
    rw [if_neg h1] at h
    intro f hf
    rcases List.mem_cons.1 hf with rfl | hf
    · simpa using h1
    · exact ih h f hf
theorem encT_ok {x : Lt} (h : (encT x).2 = 0) : x.evs.length ≤ 8 ∧ (∀ e ∈ x.evs, (encE e).2 = 0) ∧ (encT x).1 = ltB x ∧ (ltB x).length ≤ 262144 ∧ 0 ≤ x.kind ∧ 0 ≤ x.from' ∧ 0 ≤ x.to' ∧ (∀ n ∈ x.seen, 0 ≤ n) ∧ 0 ≤ x.r ∧ 0 ≤ x.n := by
  unfold encT at h ⊢
  by_cases h1 : 8 < x.evs.length
  · rw [if_pos h1] at h; simp at h
  rw [if_neg h1] at h ⊢
  by_cases h2 : firstE x.evs ≠ 0
  · rw [if_pos h2] at h; exact absurd h h2
  rw [if_neg h2] at h ⊢
  have h3 : (wputs 262144 (encTL x) ⟨[], 0⟩).e = 0 := by
    refine Decidable.byContradiction fun hne => ?_
    unfold wdone at h; rw [if_pos hne] at h; exact hne h
  obtain ⟨_, k2, k3, k4⟩ := wputs_ok h3 (by simp)
  rw [k3]
  have e0 : ((encTL x).map Prod.snd).flatten = ltB x := encTB_eq x
  simp only [List.nil_append, e0] at k4 ⊢
  have hp : ∀ p ∈ encTH x, p.1 = true := fun p hp => k2 p (List.mem_append_left _ (List.mem_append_left _ hp))
  have a1 := hp (pNum x.kind) (by simp [encTH])
  have a2 := hp (pNum x.from') (by simp [encTH])
  have a3 := hp (pNum x.to') (by simp [encTH])
  have a4 := hp (pVec x.seen) (by simp [encTH])
  have a5 := k2 (pDot x.r x.n) (List.mem_append_right _ (by simp))
  simp only [pDot, pVec, pNum, Bool.and_eq_true, decide_eq_true_eq, List.all_eq_true] at a1 a2 a3 a4 a5
  exact ⟨by omega, firstE_ok (by simpa using h2), by simp [wdone], by omega, a1, a2, a3, a4, a5.1, a5.2⟩
theorem encT_bad {x : Lt} (h : (encT x).2 ≠ 0) : (encT x).1 = [] := by
  unfold encT at h ⊢
  split
  · rfl
  · rename_i h1
    rw [if_neg h1] at h
    split
    · rfl
    · rename_i h2
      rw [if_neg h2] at h
      unfold wdone at h ⊢
      split
      · rfl
      · rename_i h3; rw [if_neg h3] at h; simp at h
/-- A letter whose numbers fit. -/
structure LtN (x : Lt) : Prop where
  kind : x.kind < 9223372036854775808
  from' : x.from' < 9223372036854775808
  to' : x.to' < 9223372036854775808
  seen : ∀ n ∈ x.seen, n < 9223372036854775808
  r : x.r < 9223372036854775808
  n : x.n < 9223372036854775808
  id : x.id.length = 32
theorem decT_enc {x : Lt} (h : LtN x) (h1 : (encT x).2 = 0) (hE : ∀ e ∈ x.evs, EvB e) (hs : x.seen.length ≤ 16) (hb : x.bs.length ≤ 4096) : decT (ltB x) = (nL x, 0, 0) := by
  obtain ⟨k1, _, _, k4, k5, k6, k7, k8, k9, k10⟩ := encT_ok h1
  have h0 : At (ltB x) 0 (ltB x) := ⟨[], by simp⟩
  rw [decT_eq k4]
  have hl : (ltB x).length = (ltB x).length := rfl
  conv at hl => rhs; unfold ltB
  conv at h0 => arg 3; unfold ltB
  generalize ltB x = B at h0 hl ⊢
  obtain ⟨a1, h0⟩ := h0.app
  obtain ⟨a2, h0⟩ := h0.app
  obtain ⟨a3, h0⟩ := h0.app
  obtain ⟨a4, h0⟩ := h0.app
  obtain ⟨a5, h0⟩ := h0.app
  obtain ⟨a6, h0⟩ := h0.app
  obtain ⟨a7, h0⟩ := h0.app
  obtain ⟨a8, a9⟩ := h0.app
  rw [h.id] at a9
  have hall : lAll B r0 = ((x.kind, x.from', x.to', x.seen, (x.evs.length : Int), (x.evs.map nE, none), (x.r, x.n), x.id, x.bs), ⟨B.length, 0, 0⟩) := by
    unfold lAll lFrom lTo lSeen lNum lEv lDot lId
    rw [num_at a1 k5 h.kind]
    dsimp only
    rw [num_at a2 k6 h.from']
    dsimp only
    rw [num_at a3 k7 h.to']
    dsimp only
    rw [vec_at a4 (fun n hm => ⟨k8 n hm, h.seen n hm⟩) (by omega) (by omega)]
    dsimp only
    rw [num_at a5 (by omega) (by omega)]
    dsimp only
    rw [Int.toNat_natCast, evs_at a6 hE]
    dsimp only
    rw [dot_at a7 ⟨k9, h.r⟩ ⟨k10, h.n⟩]
    dsimp only
    rw [id_at a8 h.id]
    dsimp only
    rw [bytes_at a9 (by omega) (by omega)]
    dsimp only
    refine congrArg (fun z : Nat => ((x.kind, x.from', x.to', x.seen, (x.evs.length : Int), (x.evs.map nE, (none : Option Int)), (x.r, x.n), x.id, x.bs), (⟨z, 0, 0⟩ : RS))) ?_
    rw [hl]
    simp only [List.length_append, h.id]
    omega
  rw [hall]
  have he : rEnd B ⟨B.length, 0, 0⟩ = (0, 0) := by unfold rEnd; rw [if_neg (by simp)]
  dsimp only [lCount, lEvs]
  rw [if_neg (by omega), he, decTm, if_neg (by simp)]
  rfl

/-! ## Who may be is encoded -/
theorem giveT_ok {n w : Int} {p : Option Ev} {l : List Ev} (h : giveT n w p l = 0) : (∀ e ∈ l, chkE e n w = 0) ∧ (∀ e, l[0]? = some e → lateB p e = false) ∧ ∀ i (hi : i + 1 < l.length), evLt l[i] l[i + 1] = true := by
  induction l generalizing p with
  | nil => exact ⟨fun _ h => (by cases h), fun _ h => (by cases h), fun _ h => (by simp at h)⟩
  | cons e l ih =>
    have h' : (if chkE e n w ≠ 0 then chkE e n w else if lateB p e = true then 25 else giveT n w (some e) l) = 0 := by cases p <;> exact h
    by_cases h1 : chkE e n w ≠ 0
    · rw [if_pos h1] at h'; exact absurd h' h1
    rw [if_neg h1] at h'
    by_cases h2 : lateB p e = true
    · rw [if_pos h2] at h'; simp at h'
    rw [if_neg h2] at h'
    obtain ⟨i1, i2, i3⟩ := ih h'
    refine ⟨fun f hf => ?_, fun f hf => ?_, fun i hi => ?_⟩
    · rcases List.mem_cons.1 hf with rfl | hf
      · simpa using h1
      · exact i1 f hf
    · cases hf; simpa using h2
    · cases i with
      | zero =>
        have hl0 : 0 < l.length := by simpa using hi
        have := i2 l[0] (by rw [List.getElem?_eq_getElem hl0])
        simp only [lateB, Bool.not_eq_false'] at this
        exact this
      | succ i => exact i3 i (by simpa using hi)
structure LtOk (x : Lt) (n w : Int) : Prop where
  n1 : 1 ≤ n ∧ n ≤ 16
  w1 : 1 ≤ w ∧ w ≤ 32
  from' : 1 ≤ x.from' ∧ x.from' ≤ n
  to' : 1 ≤ x.to' ∧ x.to' ≤ n
  ft : x.from' ≠ x.to'
  sl : (x.seen.length : Int) = n
  s : ∀ y ∈ x.seen, 0 ≤ y ∧ y ≤ 1048576
  kind : 1 ≤ x.kind ∧ x.kind ≤ 5
  el : x.evs.length ≤ 8
  ev : ∀ e ∈ x.evs, chkE e n w = 0
  lt : ∀ i (hi : i + 1 < x.evs.length), evLt x.evs[i] x.evs[i + 1] = true
  r : 0 ≤ x.r ∧ x.r ≤ 1048576
  n' : 0 ≤ x.n ∧ x.n ≤ 1048576
  bs : x.bs.length ≤ 4096
  need : x.kind = 4 → x.evs.length = 0 ∧ x.bs.length = 0 ∧ dotT x n w = 0
theorem headT_ok {x : Lt} {n : Int} (h : headT x n = true) : (1 ≤ x.from' ∧ x.from' ≤ n ∧ 1 ≤ x.to' ∧ x.to' ≤ n ∧ x.from' ≠ x.to' ∧ (x.seen.length : Int) = n) ∧ ∀ y ∈ x.seen, 0 ≤ y ∧ y ≤ 1048576 := by
  unfold headT at h
  simp only [Bool.and_eq_true, decide_eq_true_eq, List.all_eq_true, okNum] at h
  exact h
theorem dotT_ok {x : Lt} {n w : Int} (h : dotT x n w = 0) : (1 ≤ x.r ∧ x.r ≤ n) ∧ (1 ≤ x.n ∧ x.n ≤ 1048576) := by
  unfold dotT at h
  by_cases h1 : x.r < 1 ∨ n < x.r ∨ x.n < 1 ∨ 1048576 < x.n
  · rw [if_pos h1] at h; simp at h
  · omega
theorem bareT_ok {x : Lt} (h : ¬ bareT x = false) : x.r = 0 ∧ x.n = 0 ∧ x.id = List.replicate 32 0 ∧ x.bs.length = 0 := by
  have : bareT x = true := by simpa using h
  unfold bareT at this
  exact of_decide_eq_true this
theorem chkT_head {x : Lt} {n w : Int} (h : chkT x n w = 0) : (1 ≤ n ∧ n ≤ 16 ∧ 1 ≤ w ∧ w ≤ 32) ∧ headT x n = true ∧ (1 ≤ x.kind ∧ x.kind ≤ 5) ∧ kindT x n w = 0 := by
  unfold chkT at h
  by_cases h1 : n < 1 ∨ 16 < n ∨ w < 1 ∨ 32 < w
  · rw [if_pos h1] at h; simp at h
  rw [if_neg h1] at h
  by_cases h2 : headT x n = false
  · rw [if_pos h2] at h; simp at h
  rw [if_neg h2] at h
  by_cases h3 : x.kind < 1 ∨ 5 < x.kind
  · rw [if_pos h3] at h; simp at h
  rw [if_neg h3] at h
  exact ⟨by omega, by simpa using h2, by omega, h⟩
theorem chkT_ok {x : Lt} {n w : Int} (h : chkT x n w = 0) : LtOk x n w := by
  obtain ⟨h1, h2, h3, h⟩ := chkT_head h
  obtain ⟨h4, h5⟩ := headT_ok h2
  have mk : x.evs.length ≤ 8 → (∀ e ∈ x.evs, chkE e n w = 0) → (∀ i (hi : i + 1 < x.evs.length), evLt x.evs[i] x.evs[i + 1] = true) → (0 ≤ x.r ∧ x.r ≤ 1048576) → (0 ≤ x.n ∧ x.n ≤ 1048576) → x.bs.length ≤ 4096 → (x.kind = 4 → x.evs.length = 0 ∧ x.bs.length = 0 ∧ dotT x n w = 0) → LtOk x n w := fun a1 a2 a3 a4 a5 a6 a7 =>
    ⟨by omega, by omega, by omega, by omega, h4.2.2.2.2.1, h4.2.2.2.2.2, h5, h3, a1, a2, a3, a4, a5, a6, a7⟩
  have nil : x.evs.length = 0 → (∀ e ∈ x.evs, chkE e n w = 0) ∧ (∀ i (hi : i + 1 < x.evs.length), evLt x.evs[i] x.evs[i + 1] = true) := fun h0 => by
    exact ⟨fun e he => (by rw [List.eq_nil_of_length_eq_zero h0] at he; cases he), fun i hi => (by omega)⟩
  unfold kindT at h
  by_cases k1 : x.kind = 1
  · rw [if_pos k1] at h
    by_cases c : bareT x = false ∨ x.evs.length ≠ 1
    · rw [if_pos c] at h; simp at h
    rw [if_neg c] at h
    obtain ⟨b1, b2, b3, b4⟩ := bareT_ok fun h => c (.inl h)
    have hl : x.evs.length = 1 := Decidable.byContradiction fun hn => c (.inr hn)
    obtain ⟨e0, he⟩ : ∃ e0, x.evs = [e0] := by
      match hx : x.evs, hl with
      | [e], _ => exact ⟨e, rfl⟩
    refine mk (by omega) (fun e hm => ?_) (fun i hi => by omega) (by omega) (by omega) (by omega) (fun h => by omega)
    rw [he] at hm h
    rw [List.mem_singleton.1 hm]
    exact h
  rw [if_neg k1] at h
  by_cases k2 : x.kind = 2
  · rw [if_pos k2] at h
    by_cases c : bareT x = false ∨ 0 < x.evs.length
    · rw [if_pos c] at h; simp at h
    obtain ⟨b1, b2, b3, b4⟩ := bareT_ok fun h => c (.inl h)
    obtain ⟨n1, n2⟩ := nil (by omega)
    exact mk (by omega) n1 n2 (by omega) (by omega) (by omega) (fun h => by omega)
  rw [if_neg k2] at h
  by_cases k3 : x.kind = 3
  · rw [if_pos k3] at h
    by_cases c : bareT x = false
    · rw [if_pos c] at h; simp at h
    rw [if_neg c] at h
    by_cases c2 : 8 < x.evs.length
    · rw [if_pos c2] at h; simp at h
    rw [if_neg c2] at h
    obtain ⟨b1, b2, b3, b4⟩ := bareT_ok c
    obtain ⟨g1, _, g3⟩ := giveT_ok h
    exact mk (by omega) g1 g3 (by omega) (by omega) (by omega) (fun h => by omega)
  rw [if_neg k3] at h
  by_cases k4 : x.kind = 4
  · rw [if_pos k4] at h
    by_cases c : 0 < x.evs.length ∨ 0 < x.bs.length
    · rw [if_pos c] at h; simp at h
    rw [if_neg c] at h
    obtain ⟨n1, n2⟩ := nil (by omega)
    have d := dotT_ok h
    exact mk (by omega) n1 n2 (by omega) (by omega) (by omega) (fun _ => ⟨by omega, by omega, h⟩)
  rw [if_neg k4] at h
  by_cases c : 0 < x.evs.length
  · rw [if_pos c] at h; simp at h
  rw [if_neg c] at h
  by_cases c2 : dotT x n w ≠ 0
  · rw [if_pos c2] at h; exact absurd h c2
  rw [if_neg c2] at h
  by_cases c3 : 4096 < x.bs.length
  · rw [if_pos c3] at h; simp at h
  obtain ⟨n1, n2⟩ := nil (by omega)
  have d := dotT_ok (x := x) (n := n) (w := w) (by simpa using c2)
  exact mk (by omega) n1 n2 (by omega) (by omega) (by omega) (fun h => absurd h k4)
theorem evsB_le {l : List Ev} (h : ∀ e ∈ l, (encE e).1.length ≤ 16384) : (l.map fun e => numB (encE e).1.length ++ (encE e).1).flatten.length ≤ 16400 * l.length := by
  induction l with
  | nil => simp
  | cons e l ih =>
    have h1 := h e List.mem_cons_self
    have h2 := ih fun f hf => h f (List.mem_cons_of_mem _ hf)
    have h3 : (numB ((encE e).1.length : Int)).length ≤ 4 := numB_le (k := 3) (by omega) (by omega)
    simp only [List.map_cons, List.flatten_cons, List.length_append, List.length_cons]; omega
/-- Who may be is encoded. -/
theorem chkT_enc {x : Lt} {n w : Int} (h : chkT x n w = 0) (hN : ∀ e ∈ x.evs, EvN e) (h32 : x.id.length = 32) : (encT x).2 = 0 ∧ (encT x).1 = ltB x ∧ decT (ltB x) = (nL x, 0, 0) ∧ 0 < (ltB x).length := by
  have o := chkT_ok h
  have hE : ∀ e ∈ x.evs, EvB e := fun e he => .of (o.ev e he) (hN e he)
  have hlen : (ltB x).length ≤ 262144 := by
    have a1 : (numB x.kind).length = 1 := numB_lo (by have := o.kind; omega)
    have a2 : (numB x.from').length = 1 := numB_lo (by have := o.from'; have := o.n1; omega)
    have a3 : (numB x.to').length = 1 := numB_lo (by have := o.to'; have := o.n1; omega)
    have a4 : (numB (x.seen.length : Int)).length = 1 := numB_lo (by have := o.sl; have := o.n1; omega)
    have a5 := flat_le fun y hy => (o.s y hy).2
    have a6 : (numB (x.evs.length : Int)).length = 1 := numB_lo (by have := o.el; omega)
    have a7 := evsB_le fun e (_ : e ∈ x.evs) => enc_len e
    have a8 : (numB x.r).length ≤ 4 := numB_le (k := 3) (by have := o.r; omega) (by omega)
    have a9 : (numB x.n).length ≤ 4 := numB_le (k := 3) (by have := o.n'; omega) (by omega)
    have b1 : (numB (x.bs.length : Int)).length ≤ 3 := numB_le (k := 2) (by have := o.bs; omega) (by omega)
    have b2 := o.el; have b3 := o.bs; have b4 := o.sl; have b5 := o.n1
    unfold ltB
    simp only [List.length_append, h32]
    omega
  have he : (encT x).2 = 0 := by
    unfold encT
    rw [if_neg (by have := o.el; omega), firstE_zero fun e he => (hE e he).ok, if_neg (by simp)]
    have : (wputs 262144 (encTL x) ⟨[], 0⟩).e = 0 := by
      refine wputs_all (fun p hp => ?_) rfl (by
        have e0 : ((encTL x).map Prod.snd).flatten = ltB x := encTB_eq x
        simp only [List.nil_append, e0]; omega)
      have r := o.r; have n' := o.n'; have k := o.kind; have f := o.from'; have t := o.to'
      simp only [encTL, encTH, List.mem_append, List.mem_cons, List.not_mem_nil, or_false, List.mem_map] at hp
      rcases hp with ((rfl | rfl | rfl | rfl | rfl) | ⟨e, _, rfl⟩) | (rfl | rfl | rfl)
      · simp only [pNum, decide_eq_true_eq]; omega
      · simp only [pNum, decide_eq_true_eq]; omega
      · simp only [pNum, decide_eq_true_eq]; omega
      · simp only [pVec, List.all_eq_true, decide_eq_true_eq]; exact fun x hx => (o.s x hx).1
      · simp only [pNum, decide_eq_true_eq]; omega
      · rfl
      · simp only [pDot, Bool.and_eq_true, decide_eq_true_eq]; omega
      · rfl
      · rfl
    unfold wdone
    rw [if_neg (by simpa using this)]
  have hN' : LtN x := by
    have r := o.r; have n' := o.n'; have k := o.kind; have f := o.from'; have t := o.to'; have q := o.n1
    exact ⟨by omega, by omega, by omega, fun y hy => by have := o.s y hy; omega, by omega, by omega, h32⟩
  refine ⟨he, (encT_ok he).2.2.1, decT_enc hN' he hE (by have := o.sl; have := o.n1; omega) o.bs, ?_⟩
  unfold ltB; simp only [List.length_append]; have := numB_len x.kind; omega
end Go.Proofs.YtmeiadgpglpelaaGreat
/- Letters as bytes: the program's Decode. Conditions: not too many bytes. -/
namespace Go.Proofs.YtmeiadgpglpelaaGreat
open Go Go.Eng Go.RowKit

theorem ltZ_one : ∀ u ∈ ltC ltZ, u.oneCell' = true := ltC_one rfl rfl rfl
theorem ent_ltZ {F : List SP} : Ent F (ltP ltZ ++ F) :=
  (ent_row_nil t_uint8 1 rfl).trans (((ent_close (G := [])).trans (ent_row_nil t_api_Event 39 rfl)).trans ((ent_row_nil t_int 1 rfl).trans (ent_keep 4 [0, 1, 2, 3] rfl rfl)))
theorem rTake_ok {B : List Int} (hb : byteOk B) {n pl : Int} {s : RS} : byteOk (rTake B n pl s).1 ∧ (rTake B n pl s).1.length ≤ B.length := by
  unfold rTake
  split
  · exact ⟨.nil, Nat.zero_le _⟩
  · split
    · exact ⟨.nil, Nat.zero_le _⟩
    · exact ⟨(hb.drop _).take _, by simp; omega⟩
theorem decE_nE (B : List Int) : nE (decE B).1 = (decE B).1 := by
  unfold decE
  split
  · rfl
  · dsimp only
    split
    · rfl
    · split <;> rfl
/-- The letter that was begun. -/
def ltX (k f t : Int) (sv : Value) (sn : List Int) (ev : Value) : Lt := ⟨k, f, t, sv, sn, ev, [], 0, 0, List.replicate 32 0, nS, []⟩
section
variable {b : World} {F : List SP} {B : List Int} {s : RS} {g gw g4 : Nat} {v : Value}
theorem failed_S (hB : B.length ≤ 1000000) (hat : s.e = 0 → s.at' ≤ B.length) : SC Tryz.prog n_letter_Decode_1 [.pointer (some ⟨g4, 0, none⟩)] b (wrP g gw v B s ++ (pt g4 t_p_wire_Reader [.pointer (some ⟨g, 0, none⟩)] :: F)) (fun u F' => u = .bool (decide (s.e ≠ 0)) ∧ F' = wrP g gw v B s ++ (pt g4 t_p_wire_Reader [.pointer (some ⟨g, 0, none⟩)] :: F)) := by
  refine enterS F_letter_Decode_1 rfl rfl rfl ?_
  (refine sw_seq (sw_region ?_); refine so_1 rfl ?_; refine so_nil (sn_then ?_); refine sw_seq (sw_region ?_); refine so_l 3 rfl rfl rfl ?_)
  refine so_call rfl rfl rfl (rdRest_S hB hat) ?_
  rintro _ _ ⟨rfl, rfl⟩
  ((iterate 2 refine so_1 rfl ?_))
  refine so_if 5 rfl (fun h => ?_) (fun h => ?_)
  · (refine so_l 3 rfl rfl rfl ?_)
    refine so_call rfl rfl rfl (rdEnd_S hB) ?_
    rintro _ _ ⟨rfl, rfl⟩
    skip
    refine so_pu rfl (pu_fld rfl rfl rfl rfl rfl rfl rfl) rfl ?_
    ((iterate 3 refine so_1 rfl ?_); refine so_nil (sn_then ?_); refine sw_ret ?_)
    refine sn_ret rfl (.tmp rfl .nil) (Ent.refl _) ?_
    refine ⟨congrArg Value.bool ?_, rfl⟩
    by_cases h1 : s.e = 0
    · have : (rEnd B s).1 = 0 := by
        unfold rRest at h; rw [if_neg (by simp [h1])] at h
        unfold rEnd; rw [if_neg (by omega)]; exact h1
      simp [h1, this]
    · have : (rEnd B s).1 ≠ 0 := by unfold rEnd; rw [if_neg (fun h => h1 h.1)]; exact h1
      simp [h1, this]
  · ((iterate 6 refine so_1 rfl ?_); refine so_nil (sn_then ?_); refine sw_ret ?_)
    refine sn_ret rfl (.tmp rfl .nil) (Ent.refl _) ?_
    refine ⟨congrArg Value.bool (decide_eq_false ?_).symm, rfl⟩
    intro h1
    apply h; unfold rRest; rw [if_pos h1]
end
section
variable {b : World} {F : List SP} {B : List Int}
set_option maxRecDepth 20000 in
set_option maxHeartbeats 8000000 in
theorem DecodeT_S {vb : Value} (hv : ∀ w, Sat b F w → VL (Value.int .u8) w vb B) (hB : B.length ≤ 1000000) (hb : byteOk B) :
    SC Tryz.prog n_letter_Decode [vb] b F (fun u F' => ∃ y : Lt, nL y = (decT B).1 ∧ u = .tuple ⟨[ltV y, ftV (decT B).2]⟩ ∧ F' = ltP y ++ F) := by
  refine enterS F_letter_Decode rfl rfl rfl ?_
  refine sw_fact (fun w H => (hv w H).form) ?_
  rintro ⟨A, c0, rfl, hc1, hc2, hc3, _⟩
  (refine sw_seq (sw_region ?_))
  refine so_new rfl rfl rfl rfl rfl fun g2 => ?_
  refine so_new rfl rfl rfl rfl rfl fun g3 => ?_
  (refine so_nil (sn_then ?_); (iterate 2 refine sw_seq ?_); refine sw_region ?_; (iterate 3 refine so_1 rfl ?_); refine so_nil (sn_then ?_))
  refine sw_if rfl (fun h => ?_) (fun h => ?_)
  · have hdec : decT B = (ltZ, 4, 262144) := by unfold decT; rw [if_pos (by omega)]
    (refine sw_seq (sw_region ?_); (iterate 2 refine so_1 rfl ?_); refine so_s1 1 rfl rfl rfl rfl ?_; refine so_s1 0 rfl rfl rfl rfl ?_; refine so_nil (sn_then ?_); refine sw_ret ?_; refine sn_then_ret ?_)
    refine sn_ret rfl (.whole 1 rfl rfl rfl rfl rfl (.agg 0 rfl rfl rfl rfl rfl .nil)) ((ent_keep 2 [] rfl rfl).trans ent_ltZ) ?_
    rw [hdec]
    exact ⟨ltZ, rfl, rfl, rfl⟩
  (refine sw_skip ?_; refine sn_then ?_; refine sw_seq (sw_region ?_); refine so_1 rfl ?_)
  refine so_call rfl rfl rfl (NewReader_S (up hv (ent_keep 2 [] rfl rfl)) hB) ?_
  rintro _ _ ⟨g, gw, rv0, rfl, rfl⟩
  refine so_new rfl rfl rfl rfl rfl fun g4 => ?_
  (refine so_s1 0 rfl rfl rfl rfl ?_; refine so_nil (sn_then ?_); refine sw_seq (sw_region ?_); (iterate 2 refine so_1 rfl ?_); refine so_nil (sn_then ?_); refine sw_seq ?_)
  have hdec : decT B = decT2 B (rNum B r0).1 (rNum B (rNum B r0).2).1 (rNum B (rNum B (rNum B r0).2).2).1 (rVec B 16 (rNum B (rNum B (rNum B r0).2).2).2).1 (rVec B 16 (rNum B (rNum B (rNum B r0).2).2).2).2 := by unfold decT; rw [if_neg (by omega)]
  have hfa : (lAll B r0).2.e = 0 → (lAll B r0).2.fa = 0 := fun h => (go_lAll.go B [] r0 h (Nat.zero_le _)).2.2.2
  unfold lAll lFrom lTo lSeen lNum lEv lDot lId at hfa
  dsimp only at hfa
  have a0 : (r0 : RS).e = 0 → (r0 : RS).at' ≤ B.length := fun _ => Nat.zero_le _
  have a1 := go_at go_num a0
  have a2 := go_at go_num a1
  have a3 := go_at go_num a2
  have a4 := go_at (go_vec 16) a3
  generalize hq1 : rNum B r0 = q1 at hdec hfa a1 a2 a3 a4
  obtain ⟨k, s1⟩ := q1
  dsimp only at hdec hfa a1 a2 a3 a4
  generalize hq2 : rNum B s1 = q2 at hdec hfa a2 a3 a4
  obtain ⟨f, s2⟩ := q2
  dsimp only at hdec hfa a2 a3 a4
  generalize hq3 : rNum B s2 = q3 at hdec hfa a3 a4
  obtain ⟨t, s3⟩ := q3
  dsimp only at hdec hfa a3 a4
  generalize hq4 : rVec B 16 s3 = q4 at hdec hfa a4
  obtain ⟨sn, s4⟩ := q4
  dsimp only at hdec hfa a4
  refine sw_ent (G := wrP g gw rv0 B r0 ++ (pt g4 t_p_wire_Reader [.pointer (some ⟨g, 0, none⟩)] :: pt g3 t_api_Fault [.int .i64 0, .int .i64 0] :: pt g2 t_api_Letter (ltC ltZ) :: F)) (ent_keep 6 [1, 2, 3, 0, 4, 5] rfl rfl) ?_
  refine sw_float (fl := flo) 9 6 (pt g4 t_p_wire_Reader [.pointer (some ⟨g, 0, none⟩)] :: F) (by decide +kernel) rfl rfl rfl rfl (ent_keep 6 [3] rfl rfl) ?_
  (refine sv_l 0 rfl rfl rfl rfl rfl rfl rfl ?_)
  refine sv_call (R := fun u F' => u = .int .i64 k ∧ F' = wrP g gw rv0 B s1 ++ (pt g4 t_p_wire_Reader [.pointer (some ⟨g, 0, none⟩)] :: pt g3 t_api_Fault [.int .i64 0, .int .i64 0] :: pt g2 t_api_Letter (ltC ltZ) :: F)) rfl rfl rfl rfl rfl rfl rfl (fun A => (rdNum_S (F := pt g4 t_p_wire_Reader [.pointer (some ⟨g, 0, none⟩)] :: pt g3 t_api_Fault [.int .i64 0, .int .i64 0] :: pt g2 t_api_Letter (ltC ltZ) :: (F ++ A)) hB hb).mono fun u G h => ⟨_, ⟨h.1.trans (by rw [hq1]), rfl⟩, h.2.trans (by rw [hq1]; rfl)⟩) ?_
  rintro _ _ ⟨rfl, rfl⟩
  refine ⟨ent_keep 6 [3] rfl rfl, ?_⟩
  (refine sv_l 0 rfl rfl rfl rfl rfl rfl rfl ?_)
  refine sv_call (R := fun u F' => u = .int .i64 f ∧ F' = wrP g gw rv0 B s2 ++ (pt g4 t_p_wire_Reader [.pointer (some ⟨g, 0, none⟩)] :: pt g3 t_api_Fault [.int .i64 0, .int .i64 0] :: pt g2 t_api_Letter (ltC ltZ) :: F)) rfl rfl rfl rfl rfl rfl rfl (fun A => (rdNum_S (F := pt g4 t_p_wire_Reader [.pointer (some ⟨g, 0, none⟩)] :: pt g3 t_api_Fault [.int .i64 0, .int .i64 0] :: pt g2 t_api_Letter (ltC ltZ) :: (F ++ A)) hB hb).mono fun u G h => ⟨_, ⟨h.1.trans (by rw [hq2]), rfl⟩, h.2.trans (by rw [hq2]; rfl)⟩) ?_
  rintro _ _ ⟨rfl, rfl⟩
  refine ⟨ent_keep 6 [3] rfl rfl, ?_⟩
  (refine sv_l 0 rfl rfl rfl rfl rfl rfl rfl ?_)
  refine sv_call (R := fun u F' => u = .int .i64 t ∧ F' = wrP g gw rv0 B s3 ++ (pt g4 t_p_wire_Reader [.pointer (some ⟨g, 0, none⟩)] :: pt g3 t_api_Fault [.int .i64 0, .int .i64 0] :: pt g2 t_api_Letter (ltC ltZ) :: F)) rfl rfl rfl rfl rfl rfl rfl (fun A => (rdNum_S (F := pt g4 t_p_wire_Reader [.pointer (some ⟨g, 0, none⟩)] :: pt g3 t_api_Fault [.int .i64 0, .int .i64 0] :: pt g2 t_api_Letter (ltC ltZ) :: (F ++ A)) hB hb).mono fun u G h => ⟨_, ⟨h.1.trans (by rw [hq3]), rfl⟩, h.2.trans (by rw [hq3]; rfl)⟩) ?_
  rintro _ _ ⟨rfl, rfl⟩
  refine ⟨ent_keep 6 [3] rfl rfl, ?_⟩
  (refine sv_l 0 rfl rfl rfl rfl rfl rfl rfl ?_)
  refine sv_call (R := fun u F' => F' = rZ u sn :: (wrP g gw rv0 B s4 ++ (pt g4 t_p_wire_Reader [.pointer (some ⟨g, 0, none⟩)] :: pt g3 t_api_Fault [.int .i64 0, .int .i64 0] :: pt g2 t_api_Letter (ltC ltZ) :: F))) rfl rfl rfl rfl rfl rfl rfl (fun A => (rdVec_S (F := pt g4 t_p_wire_Reader [.pointer (some ⟨g, 0, none⟩)] :: pt g3 t_api_Fault [.int .i64 0, .int .i64 0] :: pt g2 t_api_Letter (ltC ltZ) :: (F ++ A)) (by decide) hB hb).mono fun u G h => ⟨_, rfl, h.trans (by rw [hq4]; rfl)⟩) ?_
  rintro sv _ rfl
  refine ⟨ent_keep 7 [4] rfl rfl, ?_⟩
  refine sv_fact (fun w H => (H.oat (k := 0) rfl).form) ?_
  rintro ⟨As, cs, rfl, _, _, _⟩
  (refine sv_1 rfl rfl rfl rfl (.inl rfl) ?_; refine sv_at ?_)
  refine sv_know 30 (ltV (ltX k f t (.slice As sn.length cs) sn nS)) rfl rfl rfl ?_
  refine sv_join rfl (by decide +kernel) rfl fun g6 => ⟨ent_keep 8 [5] rfl rfl, ?_⟩
  have x32 : ∀ ev, (ltX k f t (.slice As sn.length cs) sn ev).id.length = 32 := fun _ => rfl
  have xl : ∀ ev, (ltC (ltX k f t (.slice As sn.length cs) sn ev)).length = 40 := fun ev => ltC_len (x32 ev)
  have x1 := ltC_one (x := ltX k f t (.slice As sn.length cs) sn nS) rfl rfl rfl
  refine sd_stW (vs := ltC (ltX k f t (.slice As sn.length cs) sn nS)) 0 rfl rfl rfl rfl rfl rfl rfl rfl (xl nS) x1 (xl nS) (ent_keep 8 [5] rfl rfl) ?_
  refine sd_nil ?_
  refine sn_ent (G := wrP g gw rv0 B s4 ++ (pt g4 t_p_wire_Reader [.pointer (some ⟨g, 0, none⟩)] :: pt g6 t_api_Letter (ltC (ltX k f t (.slice As sn.length cs) sn nS)) :: rZ (.slice As sn.length cs) sn :: pt g3 t_api_Fault [.int .i64 0, .int .i64 0] :: pt g2 t_api_Letter (ltC ltZ) :: F)) (ent_keep 8 [2, 3, 4, 5, 0, 1, 6, 7] rfl rfl) ?_
  (refine sn_then ?_; refine sw_seq (sw_region ?_); (iterate 2 refine so_1 rfl ?_); refine so_l 3 rfl rfl rfl ?_)
  refine so_call rfl rfl rfl (rdRest_S hB a4) ?_
  rintro _ _ ⟨rfl, rfl⟩
  have hrest : 0 ≤ rRest B s4 ∧ rRest B s4 ≤ B.length := by
    unfold rRest
    split
    · omega
    · rename_i h9; have := a4 (by simpa using h9); omega
  (refine so_2 rfl (by (unfold I64; omega)) ?_; refine so_1 rfl ?_; refine so_nil (sn_then ?_); refine sw_seq (sw_region ?_); refine so_l 3 rfl rfl rfl ?_)
  refine so_call rfl rfl rfl (rdNum_S hB hb) ?_
  rintro _ _ ⟨rfl, rfl⟩
  have a5 := go_at go_num a4
  have hn := rNum_nn (s := s4) hb
  unfold decT2 at hdec
  dsimp only at hdec
  generalize rNum B s4 = q5 at hdec hfa a5 hn ⊢
  obtain ⟨n0, s5⟩ := q5
  dsimp only at hdec hfa a5 hn ⊢
  (refine so_1 rfl ?_; refine so_nil (sn_then ?_); (iterate 2 refine sw_seq ?_); refine sw_region ?_; (iterate 2 refine so_1 rfl ?_); refine so_nil (sn_then ?_))
  refine sw_if rfl (fun h5 => ?_) (fun h5 => ?_)
  · rw [if_pos h5] at hdec
    (refine sw_seq (sw_region ?_); (iterate 3 refine so_1 rfl ?_); refine so_s1 7 rfl rfl rfl rfl ?_; refine so_s1 6 rfl rfl rfl rfl ?_; refine so_nil (sn_then ?_); refine sw_ret ?_; refine sn_then_ret ?_)
    refine sn_ret rfl (.whole 7 rfl rfl rfl rfl rfl (.agg 6 rfl rfl rfl rfl rfl .nil)) ((ent_keep 8 [] rfl rfl).trans ent_ltZ) ?_
    rw [hdec]
    exact ⟨ltZ, rfl, rfl, rfl⟩
  rw [if_neg h5] at hdec
  obtain ⟨n, rfl⟩ := Int.eq_ofNat_of_zero_le hn.1
  rw [Int.toNat_natCast] at hdec hfa
  have h8 : n ≤ 8 := by omega
  refine sw_skip (sn_then ?_)
  refine sw_mid (S := Value × List Ev × RS) (fun x => [(2, .pointer (some ⟨g2, 0, none⟩)), (3, .pointer (some ⟨g3, 0, none⟩)), (4, .pointer (some ⟨g4, 0, none⟩)), (6, .pointer (some ⟨g6, 0, none⟩))])
    (fun x => wrP g gw rv0 B x.2.2 ++ (pt g4 t_p_wire_Reader [.pointer (some ⟨g, 0, none⟩)] :: pt g6 t_api_Letter (ltC (ltX k f t (.slice As sn.length cs) sn x.1)) :: rEs x.1 x.2.1 :: all (evF x.2.1) :: rZ (.slice As sn.length cs) sn :: pt g3 t_api_Fault [.int .i64 0, .int .i64 0] :: pt g2 t_api_Letter (ltC ltZ) :: F))
    (fun x => rEvs B n s5 = ((x.2.1.map nE, none), x.2.2) ∧ (x.2.2.e = 0 → x.2.2.at' ≤ B.length)) ?_ ?_
  · (refine sw_seq (sw_region ?_); (iterate 2 refine so_1 rfl ?_); refine so_nil (sn_then ?_); refine sw_block ?_)
    refine sw_loop (S := Nat × Value × List Ev × RS) (fun x => [(0, .slice A B.length c0), (2, .pointer (some ⟨g2, 0, none⟩)), (3, .pointer (some ⟨g3, 0, none⟩)), (4, .pointer (some ⟨g4, 0, none⟩)), (5, .func (.func n_letter_Decode_1) ⟨[]⟩ ⟨[.pointer (some ⟨g4, 0, none⟩)]⟩), (6, .pointer (some ⟨g6, 0, none⟩)), (43, .int .i64 (n : Int)), (44, .int .i64 (x.1 : Int))])
      (fun x => wrP g gw rv0 B x.2.2.2 ++ (pt g4 t_p_wire_Reader [.pointer (some ⟨g, 0, none⟩)] :: pt g6 t_api_Letter (ltC (ltX k f t (.slice As sn.length cs) sn x.2.1)) :: rEs x.2.1 x.2.2.1 :: all (evF x.2.2.1) :: rZ (.slice As sn.length cs) sn :: pt g3 t_api_Fault [.int .i64 0, .int .i64 0] :: pt g2 t_api_Letter (ltC ltZ) :: F))
      (fun x => x.1 ≤ n ∧ rEvs B n s5 = ((x.2.2.1.map nE ++ (rEvs B (n - x.1) x.2.2.2).1.1, (rEvs B (n - x.1) x.2.2.2).1.2), (rEvs B (n - x.1) x.2.2.2).2) ∧ (x.2.2.2.e = 0 → x.2.2.2.at' ≤ B.length) ∧ x.2.2.1.length ≤ x.1) (fun x => n - x.1) (0, nS, [], s5) ⟨rfl, rfl, rfl, rfl, rfl, rfl, rfl, rfl, trivial⟩ ?_ ⟨Nat.zero_le _, rfl, a5, Nat.le_refl _⟩ ?_
    · exact ((ent_close (G := [])).trans (ent_row_nil t_api_Event 39 rfl)).trans (ent_keep 10 [2, 3, 4, 5, 6, 0, 1, 7, 8, 9] rfl rfl)
    rintro ⟨i, v, D, s⟩ ⟨hi, hD, hat, hDl⟩
    dsimp only at hi hD hat hDl ⊢
    refine sw_fact (fun w H => (H.oat (k := 5) rfl).form) ?_
    rintro ⟨Ae, ce, rfl, _, _, _⟩
    (refine sw_seq (sw_region ?_); refine so_1 rfl ?_; refine so_nil (sn_then ?_); refine sw_seq ?_)
    refine sw_if rfl (fun h6 => ?_) (fun h6 => ?_)
    rotate_left
    · obtain rfl : i = n := by omega
      rw [Nat.sub_self] at hD
      (refine sw_exit ?_; refine sn_then_exit ?_; refine sn_loop_exit ?_; refine sn_block_exit ?_)
      refine sn_mid (.slice Ae D.length ce, D, s) ⟨rfl, rfl, rfl, rfl, trivial⟩ (Ent.refl _) ⟨?_, hat⟩
      dsimp only
      rw [hD]; simp only [rEvs, List.append_nil]
    have h6' : i < n := by omega
    obtain ⟨m, hm⟩ : ∃ m, n - i = m + 1 := ⟨n - i - 1, by omega⟩
    have hm' : n - (i + 1) = m := by omega
    rw [hm] at hD
    (refine sw_skip ?_; refine sn_then ?_; refine sw_seq ?_; refine sw_block ?_; refine sw_seq (sw_region ?_); (iterate 2 refine so_1 rfl ?_); refine so_l 3 rfl rfl rfl ?_)
    refine so_call rfl rfl rfl (rdRest_S hB hat) ?_
    rintro _ _ ⟨rfl, rfl⟩
    have hrs : 0 ≤ rRest B s ∧ rRest B s ≤ B.length ∧ (s.e = 0 → (B.length : Int) - rRest B s = s.at') := by
      unfold rRest
      split
      · rename_i h9; exact ⟨by omega, by omega, fun h => absurd h h9⟩
      · rename_i h9; have := hat (by simpa using h9); exact ⟨by omega, by omega, fun _ => by omega⟩
    (refine so_2 rfl (by (unfold I64; omega)) ?_; refine so_1 rfl ?_; refine so_nil (sn_then ?_); refine sw_seq (sw_region ?_); refine so_l 3 rfl rfl rfl ?_)
    refine so_call rfl rfl rfl (rdBytes_S hB hb hat) ?_
    rintro rp _ rfl
    have ab := go_at (go_bytes 16384) hat
    have hst : (rBytes B 16384 s).2.e = 0 → s.e = 0 := fun h => (go_bytes 16384).stuck B s h
    have hbb : byteOk (rBytes B 16384 s).1 := (rTake_ok hb).1
    have hbl : (rBytes B 16384 s).1.length ≤ 1000000 := Nat.le_trans (rTake_ok hb).2 hB
    have hun : rEvs B (m + 1) s = if (rBytes B 16384 s).2.e ≠ 0 then (([], none), (rBytes B 16384 s).2) else if (decE (rBytes B 16384 s).1).2.1 ≠ 0 then (([], some (s.at' : Int)), (rBytes B 16384 s).2) else (((decE (rBytes B 16384 s).1).1 :: (rEvs B m (rBytes B 16384 s).2).1.1, (rEvs B m (rBytes B 16384 s).2).1.2), (rEvs B m (rBytes B 16384 s).2).2) := rfl
    rw [hun] at hD
    clear hun
    generalize rBytes B 16384 s = p at *
    obtain ⟨p, s'⟩ := p
    dsimp only at ab hst hbb hbl hD ⊢
    (refine so_1 rfl ?_; refine so_nil (sn_then ?_); (iterate 2 refine sw_seq ?_); refine sw_region ?_; refine so_1 rfl ?_)
    refine so_callE rfl rfl rfl ((failed_S (F := rB rp p :: pt g6 t_api_Letter (ltC (ltX k f t (.slice As sn.length cs) sn (.slice Ae D.length ce))) :: rEs (.slice Ae D.length ce) D :: all (evF D) :: rZ (.slice As sn.length cs) sn :: pt g3 t_api_Fault [.int .i64 0, .int .i64 0] :: pt g2 t_api_Letter (ltC ltZ) :: F) hB ab).at (ent_keep 5 [1, 2, 3, 4, 0] rfl rfl) (ent_keep 5 [4, 0, 1, 2, 3] rfl rfl)) ?_
    (refine so_nil (sn_then ?_))
    refine sw_if rfl (fun h7 => ?_) (fun h7 => ?_)
    · rw [if_pos h7] at hD
      (refine sw_exit ?_; refine sn_then_exit ?_; refine sn_block_other rfl ?_; refine sn_then_exit ?_; refine sn_loop_exit ?_; refine sn_block_exit ?_)
      refine sn_mid (.slice Ae D.length ce, D, s') ⟨rfl, rfl, rfl, rfl, trivial⟩ (ent_keep 5 [1, 2, 3, 4] rfl rfl) ⟨?_, ab⟩
      dsimp only
      rw [hD]; simp only [List.append_nil]
    rw [if_neg h7] at hD
    have hse := hst (by simpa using h7)
    (refine sw_skip ?_; refine sn_then ?_; refine sw_seq (sw_region ?_); refine so_1 rfl ?_)
    refine so_call rfl rfl rfl (Decode_S (vlB (l := p) (k := 0) rfl) hbl hbb) ?_
    rintro _ _ ⟨dv, rv, rfl, rfl⟩
    have hf2 := dec_f2 (B := p)
    have hdn := decE_nE p
    have hd32 := (dec_w p).1
    generalize hdp : decE p = q at *
    obtain ⟨e, f1, f2⟩ := q
    dsimp only at hf2 hD hdn hd32 ⊢
    refine so_fact (fun w H => (H.oat (k := 0) rfl).form) ?_
    rintro ⟨A2, c2, rfl, _, _, _⟩
    refine so_fact (fun w H => (H.oat (k := 1) rfl).form) ?_
    rintro ⟨A3, c3, rfl, _, _, _⟩
    have hyl := evC_len (e := e.own (.slice A2 e.deps.length c2) (.slice A3 e.refs.length c3)) hd32
    have hy1 := evC_one (e := e.own (.slice A2 e.deps.length c2) (.slice A3 e.refs.length c3)) rfl rfl
    have hyn : nE (e.own (.slice A2 e.deps.length c2) (.slice A3 e.refs.length c3)) = e := hdn
    have hyP : evP (e.own (.slice A2 e.deps.length c2) (.slice A3 e.refs.length c3)) = [rZ (.slice A2 e.deps.length c2) e.deps, rD (.slice A3 e.refs.length c3) e.refs] := rfl
    generalize e.own (.slice A2 e.deps.length c2) (.slice A3 e.refs.length c3) = y at *
    ((iterate 3 refine so_1 rfl ?_))
    refine so_new rfl rfl rfl rfl rfl fun g11 => ?_
    refine so_new rfl rfl rfl rfl rfl fun g12 => ?_
    refine so_stW 1 rfl rfl rfl rfl rfl rfl rfl hyl hy1 (by rw [hyl]; rfl) ?_
    (refine so_s1 0 rfl rfl rfl rfl ?_; refine so_nil (sn_then ?_); (iterate 2 refine sw_seq ?_); refine sw_region ?_; refine so_l 0 rfl rfl rfl ?_; refine so_1 rfl ?_)
    refine so_pu rfl (pu_neA rfl rfl (eq_fault f1 f2 0 0)) rfl ?_
    by_cases h9 : f1 = 0
    rotate_left
    · rw [if_pos h9] at hD
      refine so_know 62 (.bool true) rfl (by simp [h9]) ?_
      (refine so_nil (sn_then ?_); refine sw_cond_t rfl ?_; refine sw_seq (sw_region ?_); (iterate 3 refine so_1 rfl ?_))
      refine so_s1 14 rfl rfl rfl rfl ?_
      refine so_s1 13 rfl rfl rfl rfl ?_
      (refine so_nil (sn_then ?_); refine sw_ret ?_; refine sn_then_ret ?_; refine sn_block_ret ?_; refine sn_then_ret ?_; refine sn_loop_ret ?_; refine sn_block_ret ?_; refine sn_loop_ret ?_)
      refine sn_ret rfl (.whole 14 rfl rfl rfl rfl rfl (.agg 13 rfl rfl rfl rfl rfl .nil)) ((ent_keep 15 [] rfl rfl).trans ent_ltZ) ?_
      have hr : decT B = (ltZ, 5, (s.at' : Int)) := by rw [hdec, hD]; rfl
      rw [hr]
      exact ⟨ltZ, rfl, by rw [← hrs.2.2 hse]; rfl, rfl⟩
    obtain ⟨_, rfl⟩ : f1 = 0 ∧ f2 = 0 := ⟨h9, by have := hf2 h9; simp only [Prod.mk.injEq] at this; exact this.2⟩
    rw [if_neg (by simp [h9])] at hD
    refine so_know 62 (.bool false) rfl (by simp [h9]) ?_
    (refine so_nil (sn_then ?_); refine sw_cond_f rfl ?_; refine sw_skip ?_; refine sn_then ?_; refine sw_region ?_; refine so_1 rfl ?_; refine so_l 9 rfl rfl rfl ?_)
    refine so_ldA 1 rfl rfl rfl rfl rfl rfl (segO_all (by rw [hyl]; rfl)) rfl ?_
    refine so_lit1 rfl rfl rfl rfl rfl rfl rfl hyl (by decide) fun gl => ?_
    refine so_append 11 rfl rfl rfl rfl rfl rfl rfl rfl rfl (m := 1) (news := evC y) (fun w H => (H.blk (k := 0) rfl).sl (by rw [hyl]) (by decide)) hy1 (by omega) (fun _ => rfl) fun v' => ?_
    refine so_fact (fun w H => (H.oat (k := 11) rfl).form) ?_
    rintro ⟨A', c', rfl, _, _, _⟩
    (refine so_1 rfl ?_)
    refine so_s1 10 rfl rfl rfl rfl ?_
    (refine so_nil ?_; refine sn_block ?_; refine sn_then ?_; refine sw_region ?_; refine so_2 rfl (by (unfold I64; omega)) ?_; refine so_1 rfl ?_; refine so_nil ?_)
    rw [show (i : Int) + 1 = ((i + 1 : Nat) : Int) by omega]
    refine sn_ent (G := evP y ++ all (evF D) :: (wrP g gw rv0 B s' ++ (pt g4 t_p_wire_Reader [.pointer (some ⟨g, 0, none⟩)] :: pt g6 t_api_Letter (ltC (ltX k f t (.slice As sn.length cs) sn (.slice A' (D ++ [y]).length c'))) :: rEs (.slice A' (D ++ [y]).length c') (D ++ [y]) :: rZ (.slice As sn.length cs) sn :: pt g3 t_api_Fault [.int .i64 0, .int .i64 0] :: pt g2 t_api_Letter (ltC ltZ) :: F))) (by
      have e1 : evsC (D ++ [y]) = evsC D ++ evC y := by rw [evsC, flC_app, flC, flC, List.append_nil]
      have e2 : (D ++ [y]).length = D.length + 1 := by simp
      rw [hyP, rEs, e1, e2]; exact ent_keep 16 [3, 4, 12, 6, 7, 8, 9, 10, 11, 13, 14, 15] rfl rfl) ?_
    refine sn_ent (ent_in (A := evF (D ++ [y])) evF_snoc) ?_
    refine sn_round (i + 1, .slice A' (D ++ [y]).length c', D ++ [y], s') ⟨rfl, rfl, rfl, rfl, rfl, rfl, rfl, rfl, trivial⟩ (ent_keep 7 [1, 2, 3, 4, 5, 6, 0] rfl rfl) ⟨h6', ?_, ab, by simp; omega⟩ (by dsimp only; omega)
    dsimp only
    rw [hm', hD, List.map_append, ← hyn]
    simp
  rintro ⟨v, D, s⟩ ⟨hD, hat⟩
  dsimp only at hD hat ⊢
  refine sw_fact (fun w H => (H.oat (k := 5) rfl).form) ?_
  rintro ⟨Ae, ce, rfl, _, _, _⟩
  rw [hD] at hdec hfa
  dsimp only at hfa
  simp only [decTm] at hdec
  unfold decT3 at hdec
  dsimp only at hdec
  (refine sw_seq (sw_region ?_); refine so_l 3 rfl rfl rfl ?_)
  refine so_call rfl rfl rfl (rdDot_S hB hb) ?_
  rintro _ _ ⟨rfl, rfl⟩
  have ad := go_at go_dot hat
  generalize rDot B s = q at *
  obtain ⟨⟨r, nn⟩, s6⟩ := q
  dsimp only at ad hdec hfa ⊢
  (refine so_1 rfl ?_; refine so_s1 4 rfl rfl rfl rfl ?_; refine so_nil (sn_then ?_); refine sw_seq (sw_region ?_); refine so_l 3 rfl rfl rfl ?_)
  refine so_call rfl rfl rfl (rdID_S hB ad) ?_
  rintro _ _ ⟨rfl, rfl⟩
  have ai := go_at go_id ad
  have hid := rID_len ad
  generalize rID B s6 = q at *
  obtain ⟨id, s7⟩ := q
  dsimp only at ai hdec hfa hid ⊢
  (refine so_1 rfl ?_)
  refine so_stA (vs := u8s id) (cs' := ltC { ltX k f t (.slice As sn.length cs) sn (.slice Ae D.length ce) with r := r, n := nn, id := id }) 4 rfl rfl rfl rfl rfl rfl (by rw [u8s_len, hid]; rfl) (List.all_eq_true.2 (u8s_one _)) rfl (ltC_stid (x := { ltX k f t (.slice As sn.length cs) sn (.slice Ae D.length ce) with r := r, n := nn }) rfl hid) rfl ?_
  (refine so_nil (sn_then ?_); refine sw_seq (sw_region ?_); refine so_l 3 rfl rfl rfl ?_)
  refine so_call rfl rfl rfl (rdBytes_S hB hb ai) ?_
  rintro bv _ rfl
  have hbb : byteOk (rBytes B 4096 s7).1 := (rTake_ok hb).1
  generalize rBytes B 4096 s7 = q at *
  obtain ⟨bs, s8⟩ := q
  dsimp only at hdec hfa hbb ⊢
  refine so_fact (fun w H => (H.oat (k := 0) rfl).form) ?_
  rintro ⟨Ab, cb, rfl, _, _, _⟩
  (refine so_1 rfl ?_)
  have y32 : ({ ltX k f t (.slice As sn.length cs) sn (.slice Ae D.length ce) with r := r, n := nn, id := id } : Lt).id.length = 32 := hid
  refine so_st 5 rfl rfl rfl rfl rfl rfl rfl rfl (ltC_stbv (v := .slice Ab bs.length cb) y32) rfl ?_
  have hyx : ({ ltX k f t (.slice As sn.length cs) sn (.slice Ae D.length ce) with r := r, n := nn, id := id, bv := .slice Ab bs.length cb } : Lt) = ⟨k, f, t, .slice As sn.length cs, sn, .slice Ae D.length ce, [], r, nn, id, .slice Ab bs.length cb, []⟩ := rfl
  have hyc : ltC (⟨k, f, t, .slice As sn.length cs, sn, .slice Ae D.length ce, [], r, nn, id, .slice Ab bs.length cb, []⟩ : Lt) = ltC (⟨k, f, t, .slice As sn.length cs, sn, .slice Ae D.length ce, D, r, nn, id, .slice Ab bs.length cb, bs⟩ : Lt) := rfl
  rw [hyx, hyc]
  have hyP : ltP (⟨k, f, t, .slice As sn.length cs, sn, .slice Ae D.length ce, D, r, nn, id, .slice Ab bs.length cb, bs⟩ : Lt) = [rZ (.slice As sn.length cs) sn, rEs (.slice Ae D.length ce) D, all (evF D), rB (.slice Ab bs.length cb) bs] := rfl
  have hyn : nL (⟨k, f, t, .slice As sn.length cs, sn, .slice Ae D.length ce, D, r, nn, id, .slice Ab bs.length cb, bs⟩ : Lt) = ⟨k, f, t, nS, sn, nS, D.map nE, r, nn, id, nS, bs⟩ := rfl
  have yl : (ltC (⟨k, f, t, .slice As sn.length cs, sn, .slice Ae D.length ce, D, r, nn, id, .slice Ab bs.length cb, bs⟩ : Lt)).length = 40 := ltC_len hid
  have y1 : ∀ u ∈ ltC (⟨k, f, t, .slice As sn.length cs, sn, .slice Ae D.length ce, D, r, nn, id, .slice Ab bs.length cb, bs⟩ : Lt), u.oneCell' = true := ltC_one rfl rfl rfl
  clear hyx hyc
  generalize (⟨k, f, t, .slice As sn.length cs, sn, .slice Ae D.length ce, D, r, nn, id, .slice Ab bs.length cb, bs⟩ : Lt) = y at hyP hyn yl y1 ⊢
  (refine so_nil (sn_then ?_); (iterate 2 refine sw_seq ?_); refine sw_region ?_; refine so_l 4 rfl rfl rfl ?_)
  refine so_call rfl rfl rfl ((rdEnd_S (F := rB (.slice Ab bs.length cb) bs :: pt g4 t_p_wire_Reader [.pointer (some ⟨g, 0, none⟩)] :: pt g6 t_api_Letter (ltC y) :: rEs (.slice Ae D.length ce) D :: all (evF D) :: rZ (.slice As sn.length cs) sn :: pt g3 t_api_Fault [.int .i64 0, .int .i64 0] :: pt g2 t_api_Letter (ltC ltZ) :: F) hB).ent (ent_keep 4 [1, 2, 3, 0] rfl rfl)) ?_
  rintro _ _ ⟨rfl, rfl⟩
  skip
  refine so_new rfl rfl rfl rfl rfl fun g13 => ?_
  (refine so_s1 0 rfl rfl rfl rfl ?_; refine so_nil (sn_then ?_); refine sw_seq (sw_region ?_); refine so_l 0 rfl rfl rfl ?_; refine so_1 rfl ?_)
  refine so_pu rfl (pu_neA rfl rfl (eq_fault (rEnd B s8).1 (rEnd B s8).2 0 0)) rfl ?_
  have h0 : (rEnd B s8).1 = 0 → (rEnd B s8).2 = 0 := by
    unfold rEnd
    split
    · intro h; cases h
    · exact hfa
  generalize rEnd B s8 = q at *
  obtain ⟨f1, f2⟩ := q
  dsimp only at hdec h0 ⊢
  by_cases h7 : f1 = 0
  · have h8 := h0 h7
    subst h7; subst h8
    rw [if_neg (by simp)] at hdec
    refine so_know 86 (.bool false) rfl (by simp) ?_
    (refine so_nil (sn_then ?_); refine sw_cond_f rfl ?_; refine sw_skip ?_; refine sn_then ?_; refine sw_seq (sw_region ?_))
    refine so_ldA 6 rfl rfl rfl rfl rfl rfl (segO_all (by rw [yl]; rfl)) rfl ?_
    (refine so_1 rfl ?_)
    refine so_stW 11 rfl rfl rfl rfl rfl rfl rfl yl y1 (by rw [yl]; rfl) ?_
    skip
    refine so_s1 10 rfl rfl rfl rfl ?_
    (refine so_nil (sn_then ?_); refine sw_ret ?_)
    refine sn_ret rfl (.whole 11 rfl rfl rfl rfl (by rw [yl]; rfl) (.agg 10 rfl rfl rfl rfl rfl .nil)) (ent_keep 12 [9, 7, 8, 4] rfl rfl) ?_
    refine ⟨y, ?_, ?_, ?_⟩
    · rw [hyn, hdec]
    · rw [hdec]; rfl
    · rw [hyP]; rfl
  · rw [if_pos h7] at hdec
    refine so_know 86 (.bool true) rfl (by simp [h7]) ?_
    (refine so_nil (sn_then ?_); refine sw_cond_t rfl ?_; refine sw_seq ?_)
    refine sw_draw flo (pt g13 t_api_Fault [.int .i64 f1, .int .i64 f2] :: F) (by decide +kernel) (ent_keep 12 [0] rfl rfl) ?_
    (refine sd_1 rfl (.inl rfl) ?_; refine sd_l 0 rfl rfl rfl rfl ?_)
    refine sd_stW (vs := ltC ltZ) 11 rfl rfl rfl rfl rfl rfl rfl rfl rfl ltZ_one rfl (ent_keep 12 [0] rfl rfl) ?_
    refine sd_stW 10 rfl rfl rfl rfl rfl rfl rfl rfl rfl (by simp [Value.oneCell']) rfl (ent_keep 12 [0] rfl rfl) ?_
    refine sd_nil ?_
    (refine sn_then ?_; refine sw_ret ?_; refine sn_then_ret ?_)
    refine sn_ret rfl (.whole 11 rfl rfl rfl rfl rfl (.agg 10 rfl rfl rfl rfl rfl .nil)) ((ent_keep 12 [] rfl rfl).trans ent_ltZ) ?_
    rw [hdec]
    exact ⟨ltZ, rfl, rfl, rfl⟩
end
end Go.Proofs.YtmeiadgpglpelaaGreat
