/- The engine, part sixteen: regions that draw their order, where memory is told piece by piece. Conditions: as part seven. -/
import Derived.Test.YtgebobjihojljaaEngP
namespace Go.Eng
open Go Go.RowKit

section
variable {P : Program} {tt : Nat → Option TI} [TT P tt] {ro : Option Nat} {N : Nat} {fl : Oper → Bool} {l rest : List Oper} {k : Nat} {Q : Exit → Act → World → Prop} {E : List (Nat × Value)} {ds : List Deferred} {b : World} {F0 F G : List SP}
  {d : Nat} {op : Op} {ty : TypeId} {pos : String} {aft : Array Edge} {g : Option (Nat × Bool)} {v : Value}
theorem sw_draw (fl : Oper → Bool) (F0 : List SP) [hm : Mixed P] {id : Nat} (hok : okDraw fl l = true) (he : Ent F F0) (h : SD P fl ro N F0 l 0 l Q E ds b F) : SW P ro N (.region id l.toArray true) Q E ds b F := ⟨fun w H => cw_draw fl (Sat b F0) hok ((H.ext (Fr.drew w)).ent he) (h.1 w.drew (H.ext (Fr.drew w)))⟩
theorem sd_nil (h : SN N Q .normal E ds b F) : SD P fl ro N F0 l k [] Q E ds b F := ⟨fun w H => dw_nil (h.1 w H)⟩
theorem sd_ent (he : Ent F G) (h : SD P fl ro N F0 l k rest Q E ds b G) : SD P fl ro N F0 l k rest Q E ds b F := ⟨fun w H => h.1 w (H.ent he)⟩
theorem sd_fact {p : Prop} (hp : ∀ w, Sat b F w → p) (h : p → SD P fl ro N F0 l k rest Q E ds b F) : SD P fl ro N F0 l k rest Q E ds b F := ⟨fun w H => (h (hp w H)).1 w H⟩
theorem sd_skip (hg : wants l E g = some false) (hd : Nat.blt d N = true) (h : SD P fl ro N F0 l (k + 1) rest Q ((d, undef) :: E) ds b F) : SD P fl ro N F0 l k (⟨some d, op, ty, pos, aft, g⟩ :: rest) Q E ds b F := ⟨fun w H => dw_skip hg hd (h.1 w H)⟩
theorem sd_pu (hg : wants l E g = some true) (hx : Pu P E op ty v) (hf : fl ⟨some d, op, ty, pos, aft, g⟩ = true) (hd : Nat.blt d N = true) (h : SD P fl ro N F0 l (k + 1) rest Q ((d, v) :: E) ds b F) :
    SD P fl ro N F0 l k (⟨some d, op, ty, pos, aft, g⟩ :: rest) Q E ds b F := ⟨fun w H => dw_rd hg hf (fun W _ => hx W) hd (h.1 w H)⟩
theorem sd_p (hg : wants l E g = some true) (hx : pev tt E op = some v) (hf : fl ⟨some d, op, ty, pos, aft, g⟩ = true) (hd : Nat.blt d N = true) (h : SD P fl ro N F0 l (k + 1) rest Q ((d, v) :: E) ds b F) :
    SD P fl ro N F0 l k (⟨some d, op, ty, pos, aft, g⟩ :: rest) Q E ds b F := sd_pu hg (pev_sound hx) hf hd h
theorem sd_c {c : Prop} (hg : wants l E g = some true) (hx : pevc tt E op = some (c, v)) (hf : fl ⟨some d, op, ty, pos, aft, g⟩ = true) (hd : Nat.blt d N = true) (hc : c) (h : SD P fl ro N F0 l (k + 1) rest Q ((d, v) :: E) ds b F) :
    SD P fl ro N F0 l k (⟨some d, op, ty, pos, aft, g⟩ :: rest) Q E ds b F := sd_pu hg (pevc_sound hx hc) hf hd h
theorem sd_w (hg : wants l E g = some true) (hx : pevw E op = some v) (hf : fl ⟨some d, op, ty, pos, aft, g⟩ = true) (hd : Nat.blt d N = true) (h : SD P fl ro N F0 l (k + 1) rest Q ((d, v) :: E) ds b F) :
    SD P fl ro N F0 l k (⟨some d, op, ty, pos, aft, g⟩ :: rest) Q E ds b F := sd_pu hg (pevw_sound hx) hf hd h
theorem sd_b (hg : wants l E g = some true) (hx : pevb tt E op = some v) (hf : fl ⟨some d, op, ty, pos, aft, g⟩ = true) (hd : Nat.blt d N = true) (h : SD P fl ro N F0 l (k + 1) rest Q ((d, v) :: E) ds b F) :
    SD P fl ro N F0 l k (⟨some d, op, ty, pos, aft, g⟩ :: rest) Q E ds b F := sd_pu hg (pevb_sound hx) hf hd h
theorem sd_n (hg : wants l E g = some true) (hx : pevn tt E op = some v) (hf : fl ⟨some d, op, ty, pos, aft, g⟩ = true) (hd : Nat.blt d N = true) (h : SD P fl ro N F0 l (k + 1) rest Q ((d, v) :: E) ds b F) :
    SD P fl ro N F0 l k (⟨some d, op, ty, pos, aft, g⟩ :: rest) Q E ds b F := sd_pu hg (pevn_sound hx) hf hd h
theorem sd_ix (i' : Nat) {b' o n s : Nat} {i : Int} (hg : wants l E g = some true) (hx : ixv tt E op = some (b', o, n, i, s)) (hf : fl ⟨some d, op, ty, pos, aft, g⟩ = true) (hd : Nat.blt d N = true) (hi : i = (i' : Int)) (hk : i' < n)
    (h : SD P fl ro N F0 l (k + 1) rest Q ((d, .pointer (some ⟨b', o + mulz i' s, none⟩)) :: E) ds b F) : SD P fl ro N F0 l k (⟨some d, op, ty, pos, aft, g⟩ :: rest) Q E ds b F := sd_pu hg (ixv_sound hx hi hk) hf hd h
theorem sd_rd (hg : wants l E g = some true) (hx : ∀ w, Sat b F0 w → Ex P E op ty w v w) (hf : fl ⟨some d, op, ty, pos, aft, g⟩ = true) (hd : Nat.blt d N = true) (h : SD P fl ro N F0 l (k + 1) rest Q ((d, v) :: E) ds b F) :
    SD P fl ro N F0 l k (⟨some d, op, ty, pos, aft, g⟩ :: rest) Q E ds b F := ⟨fun w H => dw_rd hg hf (fun W hW => hx W hW) hd (h.1 w H)⟩
theorem sd_ld {t g' t0 off : Nat} {x : Operand} {i : TI} {cs : List Value} (q : Nat) (hg : wants l E g = some true) (hop : op = .load t x) (ht : tt t = some i) (hagg : aggT i.desc = false) (hx : ev E x = some (.pointer (some ⟨g', off, none⟩))) (hF : nth F0 q = some (pt g' t0 cs)) (hv : nth cs off = some v)
    (hf : fl ⟨some d, op, ty, pos, aft, g⟩ = true) (hd : Nat.blt d N = true) (h : SD P fl ro N F0 l (k + 1) rest Q ((d, v) :: E) ds b F) : SD P fl ro N F0 l k (⟨some d, op, ty, pos, aft, g⟩ :: rest) Q E ds b F := by
  subst hop; exact sd_rd hg (ex_ld q ht hagg hx hF hv) hf hd h
theorem sd_ldA {t g' t0 off : Nat} {x : Operand} {i : TI} {cs vs : List Value} (q : Nat) (hg : wants l E g = some true) (hop : op = .load t x) (ht : tt t = some i) (hagg : aggT i.desc = true) (hx : ev E x = some (.pointer (some ⟨g', off, none⟩))) (hF : nth F0 q = some (pt g' t0 cs)) (hv : segO cs off i.size = some vs)
    (hf : fl ⟨some d, op, ty, pos, aft, g⟩ = true) (hd : Nat.blt d N = true) (h : SD P fl ro N F0 l (k + 1) rest Q ((d, .agg ⟨vs⟩) :: E) ds b F) : SD P fl ro N F0 l k (⟨some d, op, ty, pos, aft, g⟩ :: rest) Q E ds b F := by
  subst hop; exact sd_rd hg (ex_ldA q ht hagg hx hF hv) hf hd h
theorem sd_know (i : Nat) {u : Value} (v : Value) (hl : look E i = some u) (he : u = v) (h : SD P fl ro N F0 l k rest Q ((i, v) :: E) ds b F) : SD P fl ro N F0 l k rest Q E ds b F := ⟨fun w H => d_know i v hl he (h.1 w H)⟩
theorem sd_if (i : Nat) {p : Prop} [Decidable p] (hl : look E i = some (.bool (decide p))) (ht : p → SD P fl ro N F0 l k rest Q ((i, .bool true) :: E) ds b F) (hf : ¬ p → SD P fl ro N F0 l k rest Q ((i, .bool false) :: E) ds b F) : SD P fl ro N F0 l k rest Q E ds b F := ⟨fun w H => d_if i hl (fun h => (ht h).1 w H) (fun h => (hf h).1 w H)⟩
theorem sd_split (i : Nat) {v : Bool} (hl : look E i = some (.bool v)) (ht : v = true → SD P fl ro N F0 l k rest Q ((i, .bool true) :: E) ds b F) (hf : v = false → SD P fl ro N F0 l k rest Q ((i, .bool false) :: E) ds b F) : SD P fl ro N F0 l k rest Q E ds b F := ⟨fun w H => d_split i hl (fun h => (ht h).1 w H) (fun h => (hf h).1 w H)⟩
/-! What acts: the pieces F0 stay as they are. -/
theorem sd_new {t : Nat} {i : TI} {zs : List Value} (hg : wants l E g = some true) (hf : fl ⟨some d, op, ty, pos, aft, g⟩ = false) (hop : op = .alloc t) (ht : tt t = some i) (hz : zlist i.zero = some zs) (hd : Nat.blt d N = true) (he : Ent F F0)
    (h : ∀ g', SD P fl ro N F0 l (k + 1) rest Q ((d, .pointer (some ⟨g', 0, none⟩)) :: E) ds b (pt g' t zs :: F)) : SD P fl ro N F0 l k (⟨some d, op, ty, pos, aft, g⟩ :: rest) Q E ds b F := ⟨fun w H => by
  refine dw_new hg hf hop ht hd fun w' B x _ => ?_
  rw [zlist_eq hz] at B
  exact ⟨(H.ext x).ent he, (h w.heap.size).1 w' (H.alloc x B (Nat.le_refl _))⟩⟩
theorem sd_call {f : FuncId} {args : List Value} {R : Value → List SP → Prop} (hg : wants l E g = some true) (hf : fl ⟨some d, op, ty, pos, aft, g⟩ = false) (hx : callOf E op = some (f, args)) [hb : Bodied P f] (hd : Nat.blt d N = true) (hs : SC P f args b F R)
    (h : ∀ v F', R v F' → Ent F' F0 ∧ SD P fl ro N F0 l (k + 1) rest Q ((d, v) :: E) ds b F') : SD P fl ro N F0 l k (⟨some d, op, ty, pos, aft, g⟩ :: rest) Q E ds b F := ⟨fun w H => dw_call hg hf (ec_call hx) hd ((hs w H).mono fun _ w' ⟨v, F', h1, h2, h3⟩ => ⟨v, h1, h3.ent (h v F' h2).1, (h v F' h2).2.1 w' h3⟩)⟩
theorem sd_callE {f : FuncId} {args : List Value} (hg : wants l E g = some true) (hf : fl ⟨some d, op, ty, pos, aft, g⟩ = false) (hx : callOf E op = some (f, args)) [hb : Bodied P f] (hd : Nat.blt d N = true) (hs : SC P f args b F (fun u F' => u = v ∧ F' = F)) (he : Ent F F0)
    (h : SD P fl ro N F0 l (k + 1) rest Q ((d, v) :: E) ds b F) : SD P fl ro N F0 l k (⟨some d, op, ty, pos, aft, g⟩ :: rest) Q E ds b F :=
  sd_call hg hf hx hd hs fun _ _ ⟨h1, h2⟩ => by subst h1; subst h2; exact ⟨he, h⟩
theorem sd_wr (hg : wants l E g = some true) (hf : fl ⟨none, op, ty, pos, aft, g⟩ = false) (hx : ∀ w, Sat b F w → ∃ w', Eu P E op ty w w' ∧ Sat b G w') (he : Ent G F0) (h : SD P fl ro N F0 l (k + 1) rest Q E ds b G) :
    SD P fl ro N F0 l k (⟨none, op, ty, pos, aft, g⟩ :: rest) Q E ds b F := ⟨fun w H => by
  obtain ⟨w', h1, h2⟩ := hx w H
  exact dw_eu hg hf h1 (h2.ent he) (h.1 w' h2)⟩
theorem sd_st {t g' t0 off : Nat} {x y : Operand} {i : TI} {cs cs' : List Value} (q : Nat) (hg : wants l E g = some true) (hf : fl ⟨none, op, ty, pos, aft, g⟩ = false) (hop : op = .store t x y) (ht : tt t = some i) (hs : i.size = 1) (hx : ev E x = some (.pointer (some ⟨g', off, none⟩))) (hy : ev E y = some v) (hv : v.oneCell' = true) (hF : nth F q = some (pt g' t0 cs))
    (hc : stO cs off v = some cs') (hG : setF F q (pt g' t0 cs') = some G) (he : Ent G F0) (h : SD P fl ro N F0 l (k + 1) rest Q E ds b G) : SD P fl ro N F0 l k (⟨none, op, ty, pos, aft, g⟩ :: rest) Q E ds b F := by
  subst hop; exact sd_wr hg hf (eu_st q ht hs hx hy hv hF hc hG) he h
theorem sd_stA {t g' t0 off : Nat} {x y : Operand} {i : TI} {cs vs cs' : List Value} (q : Nat) (hg : wants l E g = some true) (hf : fl ⟨none, op, ty, pos, aft, g⟩ = false) (hop : op = .store t x y) (ht : tt t = some i) (hx : ev E x = some (.pointer (some ⟨g', off, none⟩))) (hy : ev E y = some v) (hz : zlist v = some vs) (hs : Nat.beq vs.length i.size = true) (hv : vs.all (·.oneCell') = true) (hF : nth F q = some (pt g' t0 cs))
    (hc : splO cs off vs = some cs') (hG : setF F q (pt g' t0 cs') = some G) (he : Ent G F0) (h : SD P fl ro N F0 l (k + 1) rest Q E ds b G) : SD P fl ro N F0 l k (⟨none, op, ty, pos, aft, g⟩ :: rest) Q E ds b F := by
  subst hop; exact sd_wr hg hf (eu_stA q ht hx hy hz hs hv hF hc hG) he h
/-- A drawn region, cut in two behind its first n operations. -/
theorem sw_draw2 (fl : Oper → Bool) (n : Nat) (F1 F2 : List SP) [hm : Mixed P] {id : Nat} (hn : Nat.ble n l.length = true) (hok : okCut fl n l = true) (he : Ent F F1)
    (h : SD P fl ro N F1 l 0 (l.take n) (Q2 P fl ro l (Sat b F2) n Q) E ds b F) : SW P ro N (.region id l.toArray true) Q E ds b F := ⟨fun w H => cw_draw2 fl n (Sat b F1) (Sat b F2) hn hok ((H.ext (Fr.drew w)).ent he) (h.1 w.drew (H.ext (Fr.drew w)))⟩
theorem sn_draw2 {n : Nat} {F2 : List SP} (hn : Nat.ble n l.length = true) (he : Ent F F2) (h : SD P fl ro N F2 l n (l.drop n) Q E ds b F) : SN N (Q2 P fl ro l (Sat b F2) n Q) .normal E ds b F := ⟨fun w H => pn_draw2 hn (H.ent he) (h.1 w H)⟩
end
end Go.Eng
