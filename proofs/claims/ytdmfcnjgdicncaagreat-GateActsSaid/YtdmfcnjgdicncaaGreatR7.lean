/- Wire, part one: the plain law of numbers as bytes: written and read again. Conditions: stated in each. -/
import Derived.Test.YtdmfcnjgdicncaaGreatR1
import Derived.Test.YtdmfcnjgdicncaaGreatR5
import Derived.Test.YtdmfcnjgdicncaaGreatR0
import Derived.Test.YtdmfcnjgdicncaaGreatR3
namespace Go.Proofs.YtdmfcnjgdicncaaGreat

def kk:Nat→Nat→Int→Nat
 | 0, k, _ => k
 | m + 1, k, n => if n / 256 ^ k > 0 then kk m (k + 1) n else k
structure RS where
 at':Nat
 e:Int
 fa:Int
section
variable {B:List Int} {s:RS}
end
open Go Go.Eng Go.RowKit

structure WS where
 b:List Int
 e:Int


def okNum (x:Int):Bool:=decide (0≤x)&&decide (x≤1048576)
def mq (e:Ev) (n:Int):Bool :=
 decide (1≤e.r∧e.r≤n∧1≤e.n∧e.n≤1048576∧(e.deps.length:Int)=n)&&e.deps.all okNum&&decide (e.deps[(e.r - 1).toNat]?.getD 0=e.n - 1)
def aea (l:List (List Int)):Bool:=(List.range (l.length - 1)).all fun i=>decide (jd (l[i]?.getD []) (l[i+1]?.getD [])<0)
def ya (e:Ev) (asked:Bool) (w:Int):Int :=
 if asked=false then (if e.refs.length=0 then 0 else 2)
 else if e.refs.length=0∨256<e.refs.length∨e.id∉e.refs∨aea e.refs=false then 2
 else if (e.refs.all fun x=>uq x w)=true then 0 else 8
def vz (e:Ev):Int:=if e.kind=3∨e.kind=4 then (if zm (ef e.tag)=(0,0) then 0 else 7) else if e.tag.size=0 then 0 else 2
def idE (e:Ev) (w:Int):Int:=if e.kind=4 then (if e.id=List.replicate 32 0 then 0 else 8) else if uq e.id w=true then 0 else 8
def qt (e:Ev) (n w:Int):Int :=
 if n<1∨16<n∨w<1∨32<w then 3
 else if mq e n=false then 2
 else if e.kind<1∨4<e.kind then 5
 else if qd (ef e.repo)≠(0,0) then 7
 else if vz e≠0 then vz e
 else if idE e w≠0 then idE e w
 else ya e (decide (e.kind=1∨e.kind=3)) w

section
variable {b:World} {F:List SP}
end

section
variable {b:World} {F:List SP}
end

section
variable {b:World} {F:List SP}
theorem bds {fn:Nat} [Bodied Tryz.prog fn] {va:Value} {xs:List Int} {q:Int→Bool} (hq:∀ x∈xs,SC Tryz.prog fn [.int .i64 x] b F (fun v F'=>v = .bool (q x)∧F'=F)) (ha:∀ w,Sat b F w→VL (Value.int .i64) w va xs) (hn:xs.length≤10000000) :
  SC Tryz.prog mx [va,.func (.func fn) ⟨[]⟩ ⟨[]⟩] b F (fun v F'=>(∃ i:Int,v = .int .i64 i∧decide (0≤i)=xs.any q)∧F'=F):=by
 refine bf Tryz.func191 Z Z Z <| bt (fun w H=>(ha w H).form) ?_
 rintro ⟨A,c,rfl,h1,h2,h3,h4⟩
 refine bd4 <| af Z <| bd3 <| ae <| bd4 <| bgj Z Z Z <| bd3 <| ar <| b6 (S:=Nat) (fun i=> [(0,.slice A xs.length c),(1,.func (.func fn) ⟨[]⟩ ⟨[]⟩),(7,.int .i64 xs.length),(8,.int .i64 (i:Int))]) (fun _=>F) (fun i=>i≤xs.length∧(xs.take i).any q=false) (fun i=>xs.length - i) 0 ⟨rfl,rfl,rfl,rfl,trivial⟩ (Ent.refl _) ⟨Nat.zero_le _,rfl⟩ ?_
 rintro i ⟨hi,hk⟩
 refine bd4 <| af Z <| bd3 <| ae ?_
 refine di Z (fun h=> ?_) (fun h=> ?_)
 ·have h':i<xs.length:=by omega
  obtain ⟨bk,off,rfl⟩:=h4 (by omega)
  refine ao <| aa <| ae <| ar <| bd4 <| bgi Z Z <| a8r <| bgj Z Z Z <| b5 Z (by omega) ?_
  refine iu Z (fun w H=>bm Z Z Z (by rw [bi];simpa using VL.at (ha w H) i h')) Z ?_
  refine bh Z Z Z (hq _ (List.getElem_mem h')) ?_
  cases hx:q xs[i] with
  | true =>
   refine bd3 <| aq Z <| bd4 <| bgi Z Z <| bd3 <| aj <| ap <| ag <| da <| ap <| ag <| ai Z (.tmp Z .nil) (Ent.refl _) <| ⟨⟨i,rfl,?_⟩,rfl⟩
   rw [decide_eq_true (by omega)]
   exact (List.any_eq_true.2 ⟨_,List.getElem_mem h',hx⟩).symm
  | false =>
   refine bd3 <| al Z <| ao <| ba <| aa <| ab <| b5 Z (by (unfold I64;omega)) <| af Z <| ad <| bj (i+1) ⟨rfl,rfl,rfl,rfl,trivial⟩ (Ent.refl _) ⟨h',?_⟩ (by omega)
   rw [List.take_succ_eq_append_getElem h',List.any_append,hk]
   simp [hx]
 ·refine bu <| av <| ax <| au <| aa <| bd4 <| af Z <| bd3 <| aj <| ai Z (.tmp Z .nil) (Ent.refl _) <| ⟨⟨-1,rfl,?_⟩,rfl⟩
  rw [List.take_of_length_le (by omega)] at hk
  rw [hk];rfl
theorem a7e {fn:Nat} [Bodied Tryz.prog fn] {va:Value} {xs:List Int} {q:Int→Bool} (hq:∀ x∈xs,SC Tryz.prog fn [.int .i64 x] b F (fun v F'=>v = .bool (q x)∧F'=F)) (ha:∀ w,Sat b F w→VL (Value.int .i64) w va xs) (hn:xs.length≤10000000) :
  SC Tryz.prog mb [va,.func (.func fn) ⟨[]⟩ ⟨[]⟩] b F (fun v F'=>v = .bool (xs.any q)∧F'=F):=by
 refine bf Tryz.func161 Z Z Z <| bd4 <| af Z <| a8r <| bgi Z Z <| bq Z Z Z (bds hq ha hn) ?_
 rintro _ _ ⟨⟨i,rfl,hi⟩,rfl⟩
 refine bgi Z Z <| bd3 <| aj <| ai Z (.tmp Z .nil) (Ent.refl _) ?_
 exact ⟨congrArg Value.bool hi,rfl⟩
end

section
variable {b:World} {F:List SP} {g gw:Nat} {v va:Value} {lim:Int} {s:WS}
end

section
variable {b:World} {F:List SP} {g gw:Nat} {v:Value} {B:List Int} {s:RS}
end

section
variable {b:World} {F:List SP} {g gw:Nat} {v:Value} {B:List Int} {s:RS}
end

section
variable {b:World} {F:List SP} {g gw:Nat} {v va:Value} {B:List Int} {s:RS}
end
end Go.Proofs.YtdmfcnjgdicncaaGreat
