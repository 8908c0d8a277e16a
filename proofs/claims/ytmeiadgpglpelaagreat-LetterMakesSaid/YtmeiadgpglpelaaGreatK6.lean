/- Stable sorting, part one: the plain law. Things with their places; sorted pieces joined. Conditions: the order is one of classes. -/
import Derived.Test.YtmeiadgpglpelaaGreatK4
import Derived.Test.YtmeiadgpglpelaaGreatK5
import Derived.Test.YtmeiadgpglpelaaGreatK3
namespace Go.Proofs.YtmeiadgpglpelaaGreat

section
variable {β : Type} {lt : β → β → Bool} {ok : β → Prop}
end
end Go.Proofs.YtmeiadgpglpelaaGreat
/- Stable sorting, part two: the plain law of blocks that are sorted, and joined two by two. Conditions: the order is one of classes. -/
namespace Go.Proofs.YtmeiadgpglpelaaGreat

section
variable {β : Type} {lt : β → β → Bool} {ok : β → Prop}
end
end Go.Proofs.YtmeiadgpglpelaaGreat
/- Stable sorting, part three: events compared; two of them exchanged; ranges of them exchanged. Conditions: none. -/
namespace Go.Proofs.YtmeiadgpglpelaaGreat
open Go Go.Eng Go.RowKit

def evLt (x y : Ev) : Bool := lessL x.r x.n x.deps y.r y.n y.deps
section
variable {b : World} {F : List SP} {x y : Ev}
theorem eLess_S (hx : ∀ w, Sat b F w → ER w x) (hy : ∀ w, Sat b F w → ER w y) : SC Tryz.prog n_event_Less [evV x, evV y] b F (fun v F' => v = .bool (evLt x y) ∧ F' = F) := by
  refine enterS F_event_Less rfl rfl rfl ?_
  (refine sw_seq (sw_region ?_))
  refine so_box rfl rfl rfl rfl rfl fun g2 => ?_
  skip
  refine so_box rfl rfl rfl rfl rfl fun g3 => ?_
  (refine so_1 rfl ?_; refine so_nil (sn_then ?_); refine sw_seq (sw_region ?_); refine so_1 rfl ?_; refine so_l 1 rfl rfl rfl ?_; refine so_1 rfl ?_; refine so_l 1 rfl rfl rfl ?_; refine so_1 rfl ?_; refine so_l 0 rfl rfl rfl ?_; refine so_1 rfl ?_; refine so_l 0 rfl rfl rfl ?_)
  refine so_callE rfl rfl rfl ((SC.ofExt fun w H => Less_spec (up hx (ent_keep 2 [] rfl rfl) w H).dv (up hy (ent_keep 2 [] rfl rfl) w H).dv)) ?_
  (refine so_1 rfl ?_; refine so_nil (sn_then ?_); refine sw_ret ?_)
  refine sn_ret rfl (.tmp rfl .nil) (ent_keep 2 [] rfl rfl) ?_
  exact ⟨rfl, rfl⟩
end
section
variable {b : World} {F : List SP} {D : List (Nat × Ev)} {A : Option Addr} {c n : Nat}
end
end Go.Proofs.YtmeiadgpglpelaaGreat
/- Stable sorting, part four: ranges exchanged, pieces turned round; sorting by insertion. Conditions: none. -/
namespace Go.Proofs.YtmeiadgpglpelaaGreat
open Go Go.Eng Go.RowKit

section
variable {b : World} {F : List SP} {D : List (Nat × Ev)} {A : Option Addr} {c n : Nat} {fv : Value}
end
end Go.Proofs.YtmeiadgpglpelaaGreat
/- Stable sorting, part five: pieces turned round. Conditions: none. -/
namespace Go.Proofs.YtmeiadgpglpelaaGreat
open Go Go.Eng Go.RowKit

section
variable {b : World} {F : List SP} {A : Option Addr} {c n : Nat} {fv : Value}
end
end Go.Proofs.YtmeiadgpglpelaaGreat
/- Stable sorting, part six: sorting by insertion. Conditions: none. -/
namespace Go.Proofs.YtmeiadgpglpelaaGreat
open Go Go.Eng Go.RowKit

section
variable {b : World} {F : List SP} {A : Option Addr} {c n : Nat}
end
end Go.Proofs.YtmeiadgpglpelaaGreat
/- Stable sorting, part seven: two sorted pieces joined; the plain law of what the search finds. Conditions: none. -/
namespace Go.Proofs.YtmeiadgpglpelaaGreat
open Go Go.Eng Go.RowKit

section
variable {x : Nat × Ev} {S T : List (Nat × Ev)}
end
end Go.Proofs.YtmeiadgpglpelaaGreat
/- Stable sorting, part eight: two sorted pieces joined, walked. Conditions: none. -/
namespace Go.Proofs.YtmeiadgpglpelaaGreat
open Go Go.Eng Go.RowKit

section
variable {b : World} {F : List SP} {c n : Nat}
end
end Go.Proofs.YtmeiadgpglpelaaGreat
/- Stable sorting, part nine: the whole. Conditions: at most a hundred thousand things. -/
namespace Go.Proofs.YtmeiadgpglpelaaGreat
open Go Go.Eng Go.RowKit

section
variable {b : World} {F : List SP} {A : Option Addr} {c n : Nat}
end
end Go.Proofs.YtmeiadgpglpelaaGreat
/- Stable sorting, part ten: the order of events, as a list tells it. Conditions: none. -/
namespace Go.Proofs.YtmeiadgpglpelaaGreat
open Go Go.Eng Go.RowKit

def tag {α : Type} (i : Nat) : List α → List (Nat × α)
  | [] => []
  | x :: l => (i, x) :: tag (i + 1) l
end Go.Proofs.YtmeiadgpglpelaaGreat
/- Stable sorting, part eleven: the program's order of events; events copied. Conditions: not too many. -/
namespace Go.Proofs.YtmeiadgpglpelaaGreat
open Go Go.Eng Go.RowKit

theorem er_form {w : World} {e : Ev} (h : ER w e) : e.dv.oneCell' = true ∧ e.rv.oneCell' = true := by
  obtain ⟨A, c, hd, _⟩ := h.dv.form
  obtain ⟨A2, c2, hr, _⟩ := sl_form h.rv
  exact ⟨by rw [hd]; rfl, by rw [hr]; rfl⟩
section
variable {b : World} {F : List SP} {l : List Ev}
end
end Go.Proofs.YtmeiadgpglpelaaGreat
/- Stable sorting, part twelve: the document's order of events; events copied, compared. Conditions: not too many. -/
namespace Go.Proofs.YtmeiadgpglpelaaGreat
open Go Go.Eng Go.RowKit

section
variable {α : Type} {f : α → List Value} {l : List α} {sz : Nat}
end
section
variable {b : World} {F : List SP} {l : List Ev}
end
end Go.Proofs.YtmeiadgpglpelaaGreat
