/- Stable sorting, part one: the plain law. Things with their places; sorted pieces joined. Conditions: the order is one of classes. -/
import Derived.Test.YtdmfcnjgdicncaaGreatR4
import Derived.Test.YtdmfcnjgdicncaaGreatR5
import Derived.Test.YtdmfcnjgdicncaaGreatR3
namespace Go.Proofs.YtdmfcnjgdicncaaGreat

section
variable {β:Type} {lt:β→β→Bool} {ok:β→Prop}
end

section
variable {β:Type} {lt:β→β→Bool} {ok:β→Prop}
end
open Go Go.Eng Go.RowKit

section
variable {b:World} {F:List SP} {x y:Ev}
end
section
variable {b:World} {F:List SP} {D:List (Nat × Ev)} {A:Option Addr} {c n:Nat}
end

section
variable {b:World} {F:List SP} {D:List (Nat × Ev)} {A:Option Addr} {c n:Nat} {fv:Value}
end

section
variable {b:World} {F:List SP} {A:Option Addr} {c n:Nat} {fv:Value}
end

section
variable {b:World} {F:List SP} {A:Option Addr} {c n:Nat}
end

section
variable {x:Nat × Ev} {S T:List (Nat × Ev)}
end

section
variable {b:World} {F:List SP} {c n:Nat}
end

section
variable {b:World} {F:List SP} {A:Option Addr} {c n:Nat}
end

def tag {α:Type} (i:Nat):List α→List (Nat × α)
 | [] => []
 | x :: l => (i, x) :: tag (i + 1) l

theorem ava {w:World} {e:Ev} (h:ER w e):e.dv.oneCell'=true∧e.rv.oneCell'=true:=by
 obtain ⟨A,c,hd,_⟩:=h.dv.form
 obtain ⟨A2,c2,hr,_⟩:=du h.rv
 exact ⟨by rw [hd];rfl,by rw [hr];rfl⟩
section
variable {b:World} {F:List SP} {l:List Ev}
end

section
variable {α:Type} {f:α→List Value} {l:List α} {sz:Nat}
theorem aw2 (h:∀ a∈l,(f a).length=sz) (i:Nat):(flC f l).take (i*sz)=flC f (l.take i):=by
 induction l generalizing i with
 | nil => simp [flC]
 | cons x l ih =>
  have h1:=h x List.mem_cons_self
  cases i with
  | zero => simp [flC]
  | succ i =>
   simp only [flC,List.take_succ_cons,← ih (fun w hw=>h w (List.mem_cons_of_mem _ hw)) i]
   rw [Nat.succ_mul,Nat.add_comm,← h1,List.take_length_add_append]
end
section
variable {b:World} {F:List SP} {l:List Ev}
end
end Go.Proofs.YtdmfcnjgdicncaaGreat
