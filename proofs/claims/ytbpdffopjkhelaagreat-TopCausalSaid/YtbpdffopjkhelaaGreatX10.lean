/- Gates, part one: how a gate lies in memory; whether nobody made it. Conditions: none. -/
import Derived.Test.YtbpdffopjkhelaaGreatX9
import Derived.Test.YtbpdffopjkhelaaGreatX11
import Derived.Test.YtbpdffopjkhelaaGreatX8
import Derived.Test.YtbpdffopjkhelaaGreatX3
import Derived.Test.YtbpdffopjkhelaaGreatX6
import Derived.Test.YtbpdffopjkhelaaGreatX5
set_option maxRecDepth 20000
set_option maxHeartbeats 8000000
namespace Go.Proofs.YtbpdffopjkhelaaGreat
open Go.Eng Go.RowKit Go.WideMaps Go.Heap

structure Pf where
 d:Int × Int
 ids:List (List Int)
 v:Value
def pM:List Pf→List ((Int × Int) × Value)
 | [] => []
 | e :: l => (e.d, .agg ⟨[e.v]⟩) :: pM l
def pF:List Pf→List SP
 | [] => []
 | e :: l => rD e.v e.ids :: pF l
abbrev CL:=List ((Int × Int) × List (List Int))
def prf (l:List Pf):CL:=l.map fun e=>(e.d,e.ids)
abbrev mpG (gp:Nat) (l:List Pf):SP:=mp gp y3 lm (pM l)
abbrev gtC (gq gs gp:Nat):List Value:= [pp gq,pp gs,.map (some gp)]
abbrev stG (gg gq gs gp:Nat) (l:List Pf) (F:List SP):List SP:=pt gg iz (gtC gq gs gp)::mpG gp l::all (pF l)::F
def gat (gg gq gs:Nat) (C:CL):SP:=exP (S:=Nat × List Pf) (fun s=>prf s.2=C) fun s=>stG gg gq gs s.1 s.2 []
def cfm (d:Int × Int):CL→List (List Int)
 | [] => []
 | e :: l => if e.1 = d then e.2 else cfm d l
def kK (d:Int × Int) (ids:List (List Int)):CL→CL
 | [] => [(d, ids)]
 | e :: l => if e.1 = d then (d, ids) :: l else e :: kK d ids l
def mW (d:Int × Int):CL→CL
 | [] => []
 | e :: l => if e.1 = d then l else e :: mW d l
section
variable {b:World} {F:List SP} {gg gq gs gp:Nat} {l:List Pf}
theorem Hp:SC Tryz.prog yr [pp gg] b (stG gg gq gs gp l F) (fun v F'=>v = .bool false∧F'=stG gg gq gs gp l F):=by
 refine aw Tryz.func41 Z Z Z <| akw <| ae Z <| aan ?_
 (iterate 6 refine ae Z ?_)
 refine bt 0 Z Z Z <| am5 Z Z Z <| akv <| ai <| ar Z Z (af 0 [] Z) ?_;exact ⟨rfl,rfl⟩
end
theorem Pz {A B:List SP}:Ent (A++B) (B++A):=je ao9
section
variable {b:World} {F:List SP} {p:Value} (hn:∀ A:List SP,SC Tryz.prog yr [p] b (A++F) (fun v F'=>v = .bool true∧F'=A++F))
include hn
end

abbrev BL:=List (List Int × List Int)
def sto (gs:Nat) (w r:Int) (X:BL):SP:=exP (S:=Nat × Int × List Kp) (fun s=>StI w r s.2.1 s.2.2∧s.2.2.map (fun e=>(e.id,e.b))=X) fun s=>stB gs s.1 w r s.2.1 s.2.2 []
section
variable {b:World} {F:List SP} {gq gs n:Nat} {w r:Int} {V:List Int} {L:List Wn} {X:BL}
theorem Um (h:Wq w r):SC Tryz.prog sI [ii w,ii r] b F (fun v F'=>∃ gs,v = .tuple ⟨[pp gs,ii 0]⟩∧F'=sto gs w r []::F):=by
 refine (Gw h).out ?_;rintro v _ ⟨gs,gm,rfl,rfl⟩;exact ⟨_,j6 (G:=fun s:Nat × Int × List Kp=>stB gs s.1 w r s.2.1 s.2.2 []) (gm,0,[]) ⟨StI.nil w (by have:=h.2.2.1;omega),rfl⟩,gs,rfl,rfl⟩
theorem Jm:SC Tryz.prog vy [pp gs] b (sto gs w r X::F) (fun v F'=>v=ii w∧F'=sto gs w r X::F):=by
 refine SC.opn ?_;rintro ⟨gm,u,l⟩ ⟨h1,h2⟩;refine (S4).out ?_;rintro v _ ⟨rfl,rfl⟩;exact ⟨_,j6 (G:=fun s:Nat × Int × List Kp=>stB gs s.1 w r s.2.1 s.2.2 []) (gm,u,l) ⟨h1,h2⟩,rfl,rfl⟩
theorem ajp (h0:V.length≠0) (hw:w≠0):SC Tryz.prog Ge [pp gq,pp gs,.slice none 0 0] b (que gq n V L::sto gs w r X::F) (fun v F'=>∃ gg,v = .tuple ⟨[pp gg,ii 0]⟩∧F'=gat gg gq gs []::que gq n V L::sto gs w r X::F):=by
 refine aw Tryz.func11 Z Z Z <| akw <| bx Z Z Z Z Z fun g4=>am4 Z Z <| akv <| ad <| akw <| ae Z <| bf Z Z Z ((mT (F:=sto gs w r X::pt g4 j7 [pp gs]::F)).ent (af 3 [1,2,0] Z)) ?_
 rintro u _ rfl;refine b9 (fun w H=>(H.oat (k:=0) Z).form) ?_;rintro ⟨A1,c1,rfl,_,_,_⟩;refine am5 Z Z Z <| np 21 Z (fun h=>absurd h (by omega)) (fun h=>bt 3 Z Z Z <| bg Z Z Z ((Jm (F:=rZ (.slice A1 V.length c1) V::que gq n V L::pt g4 j7 [pp gs]::F)).at (af 4 [2,0,1,3] Z) (af 4 [1,2,0,3] Z)) <| am4 Z Z <| akv <| de Z (fun h=>absurd h hw) (fun h=>ak <| ab <| akw <| ae Z <| bt 3 Z Z Z <| yo y3 lm Z Z Z fun gp=>ae Z <| bx Z Z Z Z Z fun gg=>ae Z <| akv <| ad <| akw <| am5 Z Z Z <| akv <| am <| dt (S:=Unit) (fun _=> [(8,pp gg),(32,ii 0),(33,ii 0)]) (fun _=>_) (fun _=>True) (fun _=>0) () ax trivial ?_));rintro ⟨⟩ _;refine akw <| ae Z <| akv <| ad <| aj Z <| bz <| au <| av <| ap <| ab <| akw <| am5 Z Z Z <| akv <| ai <| fz Z Z Z ((af 6 [0,1,3,4] Z).trans (((eg (G:= []) (F:=pt gg iz (gtC gq gs gp)::mpG gp []::que gq n V L::sto gs w r X::F)).trans (af 5 [1,2,0,3,4] Z)).trans (j6 (G:=fun s:Nat × List Pf=>stG gg gq gs s.1 s.2 []) (p:=fun s=>prf s.2 = []) (gp,[]) Z))) ?_;exact ⟨gg,rfl,rfl⟩
end

def Jn (V:List Int) (L:List Wn) (w:Int) (e:Ev) (s:Int):Bool:=if dA e V.length w=0 then D9 V L e s else false
def uK (V:List Int) (L:List Wn) (w:Int) (e:Ev) (s:Int):Int:=if dA e V.length w=0 then wL V L e s else dA e V.length w
def bS (V:List Int) (L:List Wn) (w:Int) (e:Ev) (s:Int):List Wn:=if dA e V.length w=0 then dB V L e s else L
section
variable {b:World} {F:List SP} {gg gq gs n:Nat} {w r:Int} {V:List Int} {L:List Wn} {X:BL} {C:CL} {e:Ev} {s:Int}
theorem ajq (he:∀ w,Sat b F w→ER w e) (hew:EW e) (hl:EvL e) (hd:e.deps.length≤1000000) (hr:e.refs.length≤1000000) :
  SC Tryz.prog lO [pp gg,evV e,ii s] b (gat gg gq gs C::que gq n V L::sto gs w r X::F) (fun u F'=>u = .tuple ⟨[.bool (Jn V L w e s),ii (uK V L w e s)]⟩∧F'=gat gg gq gs C::que gq n V (bS V L w e s)::sto gs w r X::F):=by
 refine SC.opn ?_;rintro ⟨gp,P⟩ hP;refine SC.out (R:=fun u F'=>u = .tuple ⟨[.bool (Jn V L w e s),ii (uK V L w e s)]⟩∧F'=stG gg gq gs gp P (que gq n V (bS V L w e s)::sto gs w r X::F)) ?_ (by
  rintro u _ ⟨h1,rfl⟩;exact ⟨_,j6 (G:=fun s:Nat × List Pf=>stG gg gq gs s.1 s.2 []) (p:=fun s=>prf s.2=C) (gp,P) hP,h1,rfl⟩)
 have h32:=hew.l32;have el:=di h32;show SC _ _ _ _ (stG gg gq gs gp P (que gq n V L::sto gs w r X::F)) _;refine aw Tryz.func14 Z Z Z <| akw <| bx Z Z Z Z Z fun g4=>am4 Z Z <| akv <| ad <| akw <| ae Z <| bg Z Z Z ((Hp (F:=que gq n V L::sto gs w r X::pt g4 ba (evC e)::F)).at (af 6 [1,2,3,4,5,0] Z) (af 6 [5,0,1,2,3,4] Z)) <| akv <| aj Z <| ak <| ab <| ad <| ad <| cn flo (pt g4 ba (evC e)::pt gg iz (gtC gq gs gp)::F) (by decide +kernel) (af 6 [0,1] Z) ?_
 refine js 0 Z Z Z Z Z Z (dj (by rw [el];rfl)) Z Z ?_;refine ay Z Zl <| ay Z Zl <| ay Z Zl <| cl 1 Z Z Z Z <| d9 Z Z Z Z ((mT (F:=pt g4 ba (evC e)::stG gg gq gs gp P (sto gs w r X::F))).ent (af 6 [4,0,1,2,3,5] Z)) ?_;rintro u _ rfl;refine ⟨af 7 [2,3] rfl,(ix (fun w H=>(H.oat (k:=0) Z).form) ?_)⟩;rintro ⟨A1,c1,rfl,_,_,_⟩;refine ay Z Zl <| ay Z Zl <| ay Z Zl <| ay Z Zl <| cl 1 Z Z Z Z <| dh Z Z Z Z ((Jm (F:=rZ (.slice A1 V.length c1) V::que gq n V L::pt g4 ba (evC e)::stG gg gq gs gp P F)).at (af 7 [6,0,1,2,3,4,5] Z) (af 7 [1,2,3,4,5,6,0] Z)) (af 7 [2,3] Z) <| dh Z Z Z Z (Ub (up he (af 7 [] Z)) hew hl) (af 7 [2,3] Z) <| ay Z Zl <| aq <| ab <| akw <| am4 Z Z <| akv ?_;by_cases hc:dA e V.length w=0;rotate_left
 ·refine ik 25 (.bool true) Z (am7 Value.bool (by rw [ans hc];rfl)) ?_;refine ao Z <| akw <| am5 Z Z Z <| akv <| ai <| ag <| fz Z Z Z (af 7 [3,4,5,1,6] Z) ?_;rw [Jn,uK,bS,if_neg hc,if_neg hc,if_neg hc];exact ⟨rfl,rfl⟩
 refine ik 25 (.bool false) Z (am7 Value.bool (by rw [ani hc];rfl)) ?_;refine aj Z <| ak <| ab <| ad <| cn flo (pt g4 ba (evC e)::pt gg iz (gtC gq gs gp)::F) (by decide +kernel) (af 7 [2,3] Z) <| ay Z Zl <| ay Z Zl <| ay Z Zl <| cl 1 Z Z Z Z ?_;refine js 0 Z Z Z Z Z Z (dj (by rw [el];rfl)) Z Z ?_;refine ay Z Zl <| d9 Z Z Z Z ((ajm (gq:=gq) (n:=n) (V:=V) (L:=L) (F:=rZ (.slice A1 V.length c1) V::pt g4 ba (evC e)::stG gg gq gs gp P (sto gs w r X::F)) (fun w H=>(he w (H.ent (af 6 [] Z))).dv) (fun w H=>(he w (H.ent (af 6 [] Z))).rv) hd hr hew).ent (af 7 [1,0,2,3,4,5,6] Z)) ?_;rintro _ _ ⟨rfl,rfl⟩;refine ⟨af 7 [2,3] rfl,(ay Z Zl <| ay Z Zl <| ay Z Zl <| ay Z Zl <| aq <| ab <| ai <| fz Z Z Z (af 7 [3,4,5,0,6] Z) ?_)⟩;rw [Jn,uK,bS,if_pos hc,if_pos hc,if_pos hc];exact ⟨rfl,rfl⟩
end

def mX (d:Int × Int):List Pf→Option Pf
 | [] => none
 | e :: l => if e.d = d then some e else mX d l
theorem P0 (d:Int × Int) (l:List Pf):md d (pM l)=(mX d l).map fun e=> .agg ⟨[e.v]⟩:=by
 induction l with
 | nil => rfl
 | cons e l ih =>
  simp only [pM,md,mX]
  split
  ·rfl
  ·exact ih
theorem P2 (d:Int × Int) (l:List Pf):cfm d (prf l)=((mX d l).map (·.ids)).getD []:=by
 induction l with
 | nil => rfl
 | cons e l ih =>
  show (if e.d=d then e.ids else cfm d (prf l))=_;simp only [mX]
  split
  ·rfl
  ·exact ih
theorem yC {d:Int × Int} {l:List Pf} {e:Pf} (h:mX d l=some e):e∈l∧e.d=d:=by
 induction l with
 | nil => cases h
 | cons x l ih =>
  simp only [mX] at h
  split at h
  ·cases h;exact ⟨anl,‹_›⟩
  ·exact ⟨ank _ (ih h).1,(ih h).2⟩
theorem P3 {l:List Pf} {e:Pf} (h:e∈l):∃ l1 l2,l=l1++e::l2∧(pF l).Perm (rD e.v e.ids::pF (l1++l2)):=by
 obtain ⟨l1,l2,rfl⟩:=ao3 h;refine ⟨l1,l2,rfl,?_⟩;clear h
 induction l1 with
 | nil => exact .refl _
 | cons x l1 ih => exact (ih.cons _).trans (.swap _ _ _)
theorem P4 {b:World} {F:List SP} {l:List Pf} {e:Pf} {k:Nat} (hk:nth F k=some (all (pF l))) (h:e∈l):∀ w,Sat b F w→SL w 32 e.v e.ids.length (ig e.ids):=fun w hS=>by
 obtain ⟨l1,l2,_,hp⟩:=P3 h;obtain ⟨h1,hl,hA⟩:=hS.mem.get hk;have h2:Sat b (rD e.v e.ids::pF (l1++l2)) w:=⟨hS.os,hS.tape,hS.output,(je hp _ hA).mono hl⟩;exact (h2.oat (k:=0) Z).sl
theorem P5 {b:World} {F:List SP} {l:List Pf} {k:Nat} (d:Int × Int) {W:World} (H:Sat b F W) (hk:nth F k=some (all (pF l))) :
  ∃ A c,(md d (pM l)).getD (.agg ⟨[.slice none 0 0]⟩) = .agg ⟨[.slice A (cfm d (prf l)).length c]⟩:=by
 rw [P0,P2];cases hf:mX d l with
 | none => exact ⟨none, 0, rfl⟩
 | some e =>
  obtain ⟨A,c,h1,_⟩:=cp (P4 hk (yC hf).1 W H);refine ⟨A,c,?_⟩;show (Value.agg ⟨[e.v]⟩)=_;rw [h1];rfl
theorem Zf {b:World} {F:List SP} {l:List Pf} {k:Nat} {d:Int × Int} {A:Option Addr} {c:Nat} (h:(md d (pM l)).getD (.agg ⟨[.slice none 0 0]⟩) = .agg ⟨[.slice A (cfm d (prf l)).length c]⟩) (hk:nth F k=some (all (pF l))) :
  ∀ W,Sat b F W→SL W 32 (.slice A (cfm d (prf l)).length c) (cfm d (prf l)).length (ig (cfm d (prf l))):=fun W H=>by
 rw [P0,P2] at h;rw [P2];cases hf:mX d l with
 | none =>
  rw [hf] at h;cases h;exact ⟨none,0,rfl,rfl,aoc _,by decide,fun _=>rfl,fun h=>absurd h (by decide)⟩
 | some e =>
  rw [hf] at h;have h1:e.v = .slice A e.ids.length c:=by
   have h2:(Value.agg ⟨[e.v]⟩) = .agg ⟨[.slice A e.ids.length c]⟩:=h;exact am7 (fun z=>match z with | Value.agg ⟨[u]⟩=>u | _=>Value.bool false) h2
  show SL W 32 (.slice A e.ids.length c) e.ids.length (ig e.ids);rw [← h1];exact P4 hk (yC hf).1 W H
def zb (L:List Wn) (C:CL) (d:Int × Int):Bool:=match jr d L with
 | some x => decide ((cfm d C).length = x.e.refs.length)
 | none => false
theorem Hs.whole {d:Int × Int} {L:List Wn} {y:Ev} {s:Int} {is:Bool} (h:Hs d L y s is) (C:CL):zb L C d=(is&&decide ((cfm d C).length=y.refs.length)):=by
 have h1:=h.eq;unfold uG at h1;unfold zb;cases hf:jr d L with
 | none =>
  rw [hf] at h1;have h3:is=false:=am7 (fun z=>z.2.2) h1;rw [h3];rfl
 | some x =>
  rw [hf] at h1;have h2:y.refs=x.e.refs:=am7 (fun z=>z.1.refs) h1;have h3:is=true:=am7 (fun z=>z.2.2) h1;rw [h2,h3];rfl
section
variable {b:World} {F:List SP} {gg gq gs gp n:Nat} {V:List Int} {L:List Wn} {P:List Pf} {d:Int × Int}
theorem Un (hd:lm d):SC Tryz.prog xc [pp gg,y3 d] b (stG gg gq gs gp P (que gq n V L::F)) (fun u F'=>u = .bool (zb L (prf P) d)∧F'=stG gg gq gs gp P (que gq n V L::F)):=by
 refine aw Tryz.func50 Z Z Z <| akw <| bx Z Z Z Z Z fun g3=>ae Z <| akv <| ad <| bu (Hl (k:=4) Z) fun hq=> ?_;refine w9 flo 12 (pt g3 t_api_Dot [ii d.1,ii d.2]::pt gg iz (gtC gq gs gp)::F) (by kernel_rfl) Z (af 5 [0,1] Z) ?_;refine q8 (T:=Nat × Ev × Int × Bool) 10 [6,7,8,10,11] (fun q=> [(0,pp gg),(3,pp g3),(5,pp q.1),(13,.tuple ⟨[.agg ⟨wsC q.2.1 q.2.2.1⟩,.bool q.2.2.2]⟩)])
  (fun q=>pt q.1 gu (wsC ev0 0)::rZ q.2.1.dv q.2.1.deps::rD q.2.1.rv q.2.1.refs::pt g3 t_api_Dot [ii d.1,ii d.2]::stG gg gq gs gp P (que gq n V L::F)) (fun q=>Hs d L q.2.1 q.2.2.1 q.2.2.2) ?_ (fun J=> ?_)
 ·rintro ⟨g5,y,s,is⟩ hs;dsimp only at hs ⊢;have h32:=hs.ew.l32;refine pg (10,[6,7]) [] (by kernel_rfl) ⟨jm 6 2 (L2:= []) Z Z ?_,trivial⟩;refine ay Z Zl <| ay Z Zl <| ix (fun w H=>(H.oat (k:=2) Z).form) ?_;rintro ⟨A2,c2,hrv,_,_,_⟩;refine ix (uH (e:=y) (i:=1) (j:=2) Z Z) fun hone=> ?_;refine aq <| s0 (af 8 [3,4] Z) <| jf _ Z ax ?_;refine aE (vs:=wsC y s) 0 Z Z Z Z Z Z Z Z (ls h32) (mH hone.1 hone.2) (by rw [ls h32];rfl) (af 8 [3,4] Z) ?_;refine aq (io (af 8 [3,4] Z) (lN 8 1 11 1 (by kernel_rfl) (by kernel_rfl) Z ?_));refine ay Z Zl <| aq <| Ns Z (af 8 [3,4] Z) <| ay Z Zl <| aq <| ab <| ad ?_;refine bu (fun w H=>by exact P5 (l:=P) d (k:=6) H Z) ?_;rintro ⟨A1,c1,hat⟩;refine cn flo (pt g5 gu (wsC y s)::pt g3 t_api_Dot [ii d.1,ii d.2]::pt gg iz (gtC gq gs gp)::mpG gp P::F) (by decide +kernel) (af 8 [0,3,4,5] Z) <| ay Z Zl <| ay Z Zl ?_;cases is with
  | false =>
   (iterate 15 refine ay Z Zl ?_)
   refine aq <| ab <| ai <| ar Z Z (af 8 [4,5,6,7] Z) ?_;rw [hs.whole];exact ⟨rfl,rfl⟩
  | true =>
   refine ay Z Zl <| ay Z Zl <| ay Z Zl <| cl 2 Z Z Z Z <| cl 1 Z Z Z Z <| sF 3 td hd hat Z Z Z Z Z Z Z Z Z <| dM Z (No Z Z Z Z Z Z Z) Z Z <| ay Z Zl <| ay Z Zl <| ay Z Zl <| rQ 0 Z Z Z Z Z Z ((Gz h32).trans (am7 some hrv)) Z Z <| ay Z Zl <| ay Z Zl <| ay Z Zl <| ay Z Zl <| aq <| ab <| ai <| ar Z Z (af 8 [4,5,6,7] Z) ?_;rw [hs.whole];refine ⟨am7 Value.bool ?_,rfl⟩;simp;omega
 ·refine pg (5,[0,1,2,3,4]) [(9,[])] (by kernel_rfl) ⟨xa 0 5 Z Z Z ?_,jf _ Z ax ?_,trivial⟩
  ·refine ay Z Zl <| ay Z Zl <| ay Z Zl <| cl 1 Z Z Z Z <| cl 0 Z Z Z Z <| d9 Z Z Z Z ((qS (gq:=gq) (n:=n) (V:=V) (L:=L) (F:=pt g3 t_api_Dot [ii d.1,ii d.2]::stG gg gq gs gp P F) hd hq).ent (af 5 [4,0,1,2,3] Z)) ?_;rintro _ _ ⟨y,s,is,hs,rfl,rfl⟩;refine ⟨af 7 [3,4] rfl,?_⟩;refine aq (io (af 7 [3,4] Z) (nu 9 0 (by kernel_rfl) Z ?_));refine jt Z Z Z Z Z Z (af 7 [3,4] Z) fun g5=>aq <| io (af 8 [4,5] Z) ?_
   exact J (g5,y,s,is) _ _ _ hs (by kernel_rfl) ⟨rfl,rfl,rfl,rfl,trivial⟩ (af 8 [0,1,2,4,5,6,7,3] Z)
  ·refine jt Z Z Z Z Z Z (af 5 [0,1] Z) fun g5=> ?_;refine aq (io (af 6 [1,2] Z) (nu 0 5 (by kernel_rfl) Z ?_));refine ay Z Zl <| ay Z Zl <| ay Z Zl <| cl 1 Z Z Z Z <| cl 0 Z Z Z Z <| d9 Z Z Z Z ((qS (gq:=gq) (n:=n) (V:=V) (L:=L) (F:=pt g5 gu (wsC ev0 0)::pt g3 t_api_Dot [ii d.1,ii d.2]::stG gg gq gs gp P F) hd hq).ent (af 6 [5,0,1,2,3,4] Z)) ?_;rintro _ _ ⟨y,s,is,hs,rfl,rfl⟩;refine ⟨af 8 [4,5] rfl,(aq <| io (af 8 [4,5] Z) ?_)⟩;exact J (g5,y,s,is) _ _ _ hs (by kernel_rfl) ⟨rfl,rfl,rfl,rfl,trivial⟩ (af 8 [3,0,1,4,5,6,7,2] Z)
end
open Go

abbrev dC (d:Int × Int):List Value:= [ii d.1,ii d.2]
theorem Ef {D:List (Int × Int)} {j:Nat} {x:Int × Int} (hj:D[j]? = some x):((pQ D).drop (j*2)).take 2=dC x:=by
 obtain ⟨hl,rfl⟩:=ann.1 hj;rw [O0];exact pa (f:=dC) (fun _ _=>rfl) hl
theorem kw {α:Type} {X:List α} {i j:Nat} {y:α} (hij:i<j) (hi:i<X.length):(X.set i y).take (i+1)=X.take i ++ [y]∧(X.set i y).drop j=X.drop j:=by
 constructor
 ·apply aqy;intro k;rw [aoq,aq8,List.getElem?_append,anm,aoq];have hm:min i X.length=i:=by omega
  rw [hm];by_cases h1:k<i
  ·rw [if_pos (by omega),if_neg (by omega),if_pos h1,if_pos h1]
  ·by_cases h2:k=i
   ·subst h2;rw [if_pos (by omega),if_pos rfl,if_pos hi,if_neg (by omega),Nat.sub_self];rfl
   ·rw [if_neg (by omega),if_neg h1,aps (by simp;omega)]
 ·apply aqy;intro k;rw [aow,aow,aq8,if_neg (by omega)]
section
variable {b:World} {F:List SP} {p:Int × Int→Bool} {f:Nat} [Bodied Tryz.prog f] {pre post:List Value} {D:List (Int × Int)} {A:Option Addr} {c:Nat}
 (hc:∀ d∈D,∀ B:List SP,SC Tryz.prog f (pre++([y3 d]++post)) b (B++F) (fun u F'=>u = .bool (p d)∧F'=B++F))
include hc
theorem Hq (hn:D.length≤100000) :
  SC Tryz.prog qe [.slice A D.length c,.func (.func f) ⟨pre⟩ ⟨post⟩] b (rO A c D.length D::F) (fun u F'=>(∃ P T,D=P++T∧(∀ e∈P,p e=false)∧(∀ t T',T=t::T'→p t=true)∧u=ii (if T = [] then -1 else (P.length:Int)))∧F'=rO A c D.length D::F):=by
 refine aw Tryz.func49 Z Z Z <| bu (fun w H=>(H.oat (k:=0) Z).form) ?_;rintro ⟨A',c',hv,_,_,q3⟩;cases hv;refine akw <| ae Z <| akv <| ad <| akw <| am5 Z Z Z <| akv <| am ?_;refine dt (S:=Nat) (fun i=> [(0,.slice A D.length c),(1,.func (.func f) ⟨pre⟩ ⟨post⟩),(7,ii D.length),(8,ii i)]) (fun _=>rO A c D.length D::F) (fun i=>i≤D.length∧∀ e∈D.take i,p e=false) (fun i=>D.length - i) 0 ax ⟨anq _,fun e he=>by simp at he⟩ ?_;rintro i ⟨hi,hP⟩;refine akw <| ae Z <| akv <| ad ?_;refine de Z (fun h1=> ?_) (fun h1=> ?_)
 ·have h1':i<D.length:=by omega
  obtain ⟨gg,oo,rfl⟩:=q3 (by omega);have hx:=am8 h1';have fx:=Ef hx;have hcy:=hc _ (ana h1');have hsn:D.take (i+1)=D.take i ++ [D[i]]:=ang h1';have hdr:D.drop i=D[i]::D.drop (i+1):=an8 h1';generalize D[i]=y at *;refine ak <| ab <| ad <| am <| akw <| am4 Z Z <| aan <| am5 Z Z Z <| az Z ?_;refine vw 0 (i*2) Z Z Z Z Z Z Z (by rw [bq,am6]) (by omega) fx Z ?_;refine bg Z Z Z (hcy [rO (some ⟨gg,oo,none⟩) c D.length D]) <| akv ?_;refine sm Z (fun q=> ?_) (fun q=> ?_)
  ·refine akw <| am4 Z Z <| akv <| ai <| al <| ag <| cd <| al <| ag <| ar Z Z ax ?_;refine ⟨⟨D.take i,D.drop i,(an9 i D).symm,hP,fun t T' h=> ?_,?_⟩,rfl⟩
   ·rw [hdr] at h;cases h;exact q
   ·rw [hdr,if_neg (by simp),anm,apq hi];rfl
  ·refine ak <| bh <| ab <| aa <| az Z <| ae Z <| ac <| cw (i+1) ax ⟨h1',fun e he=> ?_⟩;rw [hsn] at he;rcases anr.1 he with he | he
   ·exact hP e he
   ·rw [anc.1 he];exact q
 ·obtain rfl:i=D.length:=by omega
  rw [an7] at hP;refine bz <| au <| av <| ap <| ab <| akw <| ae Z <| akv <| ai <| ar Z Z ax ?_;exact ⟨⟨D,[],by simp,hP,(fun t T' h=>by cases h),rfl⟩,rfl⟩
end

theorem scB {P:Program} {f:FuncId} {args:List Value} {b:World} {G B:List SP} {v:Value} (h:SC P f args b (G++B) (fun u F'=>u=v∧F'=G++B)):SC P f args b (B++G) (fun u F'=>u=v∧F'=B++G):=by
 refine (h.ent Pz).out ?_;rintro u _ ⟨h1,rfl⟩;exact ⟨_,Pz,h1,rfl⟩
def n9 (V:List Int) (L:List Wn) (C:CL):List (Int × Int):=(ip V L).filter (zb L C)
section
variable {b:World} {F:List SP} {gg gq gs gp g1 n:Nat} {V:List Int} {L:List Wn} {P:List Pf} {C:CL} {d:Int × Int}
end

def CK (C:CL):Prop:=∀ d,(∀ x∈cfm d C,idOk x)∧(cfm d C).length≤1000000
section
variable {b:World} {F:List SP} {gg gq gs gp n:Nat} {V:List Int} {L:List Wn} {P:List Pf} {C:CL}
end

section
variable {b:World} {F:List SP} {gg gq gs gp n:Nat} {V:List Int} {L:List Wn} {P:List Pf} {C:CL}
end

def wO (d:Int × Int):List Pf→List Pf
 | [] => []
 | e :: l => if e.d = d then l else e :: wO d l
theorem Zg (d:Int × Int) (l:List Pf):zi d (pM l)=pM (wO d l):=by
 induction l with
 | nil => rfl
 | cons e l ih =>
  simp only [pM,zi,wO]
  split
  ·rfl
  ·simp only [pM,ih]
theorem P6 (d:Int × Int) (l:List Pf):mW d (prf l)=prf (wO d l):=by
 induction l with
 | nil => rfl
 | cons e l ih =>
  show (if e.d=d then prf l else (e.d,e.ids)::mW d (prf l))=_;simp only [wO]
  split
  ·rfl
  ·rw [ih];rfl
theorem Zh (d:Int × Int) (l:List Pf):∃ B,(pF l).Perm (B++pF (wO d l)):=by
 induction l with
 | nil => exact ⟨[], .refl _⟩
 | cons e l ih =>
  simp only [wO]
  split
  ·exact ⟨[rD e.v e.ids],.refl _⟩
  ·obtain ⟨B,hB⟩:=ih;exact ⟨B,(hB.cons (rD e.v e.ids)).trans an2.symm⟩
theorem P7 (d:Int × Int) (l:List Pf) {F:List SP}:Ent (all (pF l)::F) (all (pF (wO d l))::F):=by
 obtain ⟨B,hB⟩:=Zh d l;exact (qd hB).trans (qr B)
theorem iB {n:Nat} {V:List Int} {L:List Wn} (hq:QI n V L) {d:Int × Int} (h:d∈ip V L):∃ x,jr d L=some x∧lf x.e.deps V=true∧dotW x=d:=by
 unfold ip at h;obtain ⟨w,hw,rfl⟩:=anb.1 h;obtain ⟨h1,h2⟩:=anx.1 hw;exact ⟨w,bP hq.nd h1 rfl,h2,rfl⟩
def wQ (d:Int × Int) (L:List Wn):Ev:=match jr d L with
 | some x => nE x.e
 | none => nE ev0
def dlv:Nat→List Int→List Wn→CL→List Ev × List Int × List Wn × CL
 | 0, V, L, C => ([], V, L, C)
 | k + 1, V, L, C => match n9 V L C with
  | [] => ([], V, L, C)
  | d :: _ => let r := dlv k (lg V d.1 d.2) (bQ d L) (mW d C); (wQ d L :: r.1, r.2)
def u9 (V:List Int) (L:List Wn) (C:CL):List Ev × List Int × List Wn × CL:=dlv L.length V L C
theorem uL {V:List Int} {L:List Wn} {C:CL} (h:n9 V L C = []) (k:Nat):dlv k V L C=([],V,L,C):=by
 cases k with
 | zero => rfl
 | succ k => simp only [dlv, h]
theorem Hr {V:List Int} {L:List Wn} {C:CL} {d:Int × Int} {l:List (Int × Int)} (h:n9 V L C=d::l) (k:Nat):dlv (k+1) V L C=(wQ d L::(dlv k (lg V d.1 d.2) (bQ d L) (mW d C)).1,(dlv k (lg V d.1 d.2) (bQ d L) (mW d C)).2):=by
 simp only [dlv,h]
theorem Jo {d:Int × Int} {L:List Wn} {x:Wn} (h:jr d L=some x):(bQ d L).length<L.length:=by
 obtain ⟨h1,h2⟩:=gv h;unfold bQ;rw [List.length_filter_lt_length_iff_exists];exact ⟨x,h1,by simp [h2]⟩
theorem Ht {V:List Int} {L:List Wn} {C:CL} {A T:List (Int × Int)} {d:Int × Int} (h:ip V L=A++d::T) (hA:∀ e∈A,zb L C e=false) (hd:zb L C d=true):n9 V L C=d::T.filter (zb L C):=by
 unfold n9;rw [h,aov,aor,if_pos hd,ap5.2 (fun e he=>by rw [hA e he];decide)];rfl
theorem yD {V:List Int} {L:List Wn} {C:CL} (h:∀ e∈ip V L,zb L C e=false):n9 V L C = []:=by
 unfold n9;exact ap5.2 (fun e he=>by rw [h e he];decide)

structure Dst where
 D:List Ev
 V:List Int
 L:List Wn
 P:List Pf
 k:Nat
 o:Nat
 A:Option Addr
 c:Nat
section
variable {b:World} {F:List SP} {gg gq gs gp n:Nat} {V:List Int} {L:List Wn} {P:List Pf} {C:CL}
theorem L9:SC Tryz.prog dR [pp gg] b (gat gg gq gs C::que gq n V L::F) (fun u F'=>∃ A c D,D.map nE=(u9 V L C).1∧u = .slice A D.length c∧F'=rEn A c D.length D::all (evF D)::gat gg gq gs (u9 V L C).2.2.2::que gq n (u9 V L C).2.1 (u9 V L C).2.2.1::F):=by
 refine SC.opn ?_;rintro ⟨gp,P⟩ hP;refine SC.out (R:=fun u F'=>∃ A c D P',D.map nE=(u9 V L C).1∧prf P'=(u9 V L C).2.2.2∧u = .slice A D.length c∧F'=rEn A c D.length D::all (evF D)::stG gg gq gs gp P' (que gq n (u9 V L C).2.1 (u9 V L C).2.2.1::F)) ?_ (by
  rintro u _ ⟨A,c,D,P',h1,h2,h3,rfl⟩;exact ⟨_,j4 (j4 (j6 (G:=fun s:Nat × List Pf=>stG gg gq gs s.1 s.2 []) (p:=fun s=>prf s.2=(u9 V L C).2.2.2) (gp,P') h2)),A,c,D,h1,h3,rfl⟩)
 dsimp only at hP;subst hP;show SC _ _ _ _ (stG gg gq gs gp P (que gq n V L::F)) _;refine aw Tryz.func16 Z Z Z <| bu (Hl (k:=3) Z) fun hq=> ?_;refine akw <| ae Z <| akv <| ad <| akw <| ae Z <| bg Z Z Z (Hp (F:=que gq n V L::F)) <| akv <| aj Z <| ak <| ab <| am ?_;refine dt (S:=Dst) (fun s=> [(0,pp gg),(2,.slice s.A s.o s.c)])
  (fun s=>rEn s.A s.c s.o s.D::all (evF s.D)::stG gg gq gs gp s.P (que gq n s.V s.L::F)) (fun s=>s.L.length≤s.k∧s.D.length=s.o∧s.o+s.L.length≤L.length∧QI n s.V s.L∧s.D.map nE++(dlv s.k s.V s.L (prf s.P)).1=(u9 V L (prf P)).1∧(dlv s.k s.V s.L (prf s.P)).2=(u9 V L (prf P)).2) (fun s=>s.L.length) ⟨[],V,L,P,L.length,0,none,0⟩ ?_ ⟨aoc _,rfl,by dsimp only;omega,hq,rfl,rfl⟩ ?_
 ·exact (eg (G:= [])).trans (df ba 39 Z)
 rintro ⟨D,V1,L1,P1,k,o,A,c⟩ ⟨hk,ho,hoL,hq1,hD1,hD2⟩;dsimp only at hk ho hoL hq1 hD1 hD2 ⊢;refine am <| akw <| am5 Z Z Z <| bt 2 Z Z Z <| bf Z Z Z ((Zc (gq:=gq) (n:=n) (V:=V1) (L:=L1) (F:=rEn A c o D::all (evF D)::stG gg gq gs gp P1 F)).ent (af 6 [5,0,1,2,3,4] Z)) ?_;rintro _ _ ⟨A0,c0,rfl,rfl⟩;have hrl:(ip V1 L1).length≤100000:=by
  have h1:(ip V1 L1).length≤L1.length:=by unfold ip;rw [anf];exact apc _ _
  have:=hq1.many;omega
 refine ae Z <| aan <| am5 Z Z Z ?_;refine bf Z Z Z ((Hq (f:=xc) (pre:= [pp gg]) (post:= []) (p:=fun d=>zb L1 (prf P1) d) (D:=ip V1 L1) (F:=stG gg gq gs gp P1 (que gq n V1 L1::rEn A c o D::all (evF D)::F)) (fun d hd B=>by
  refine scB ?_;exact Un (F:=rEn A c o D::all (evF D)::F++B) (yA hq1 hd)) hrl).ent (af 7 [0,4,5,6,1,2,3] Z)) ?_
 rintro _ _ ⟨⟨Pr,T,hPT,hPr,hT,rfl⟩,rfl⟩;cases T with
 | nil =>
  rw [if_pos rfl];rw [anv] at hPT;have hrd:=yD (C:=prf P1) (fun e he=>hPr e (hPT▸he));rw [uL hrd k] at hD1 hD2;rw [anv] at hD1;refine ae Z <| akv <| ad <| akw <| am4 Z Z <| akv <| ao Z <| akw <| am4 Z Z <| akv <| ai <| ag <| al <| cd <| al ?_;subst ho;refine ar Z Z (af 7 [5,6,1,2,3,4] Z) ?_;rw [← hD2];exact ⟨A,c,D,P1,hD1,rfl,rfl,rfl⟩
 | cons d T =>
 rw [if_neg (by simp)];have hd:=hT d T Z;have hrd:=Ht (C:=prf P1) hPT hPr hd;have hdm:d∈ip V1 L1:=by rw [hPT];simp
 have hdk:=yA hq1 hdm;obtain ⟨x,hfx,hlx,hxd⟩:=iB hq1 hdm;have hlt:=Jo hfx;obtain ⟨k',rfl⟩:∃ k',k=k'+1:=⟨k - 1,by omega⟩;rw [Hr hrd k'] at hD1 hD2;have hat:(ip V1 L1)[Pr.length]? = some d:=by rw [hPT];simp
 have hatl:Pr.length<(ip V1 L1).length:=by rw [hPT,am9,anp];omega
 have fx:=Ef hat;refine b9 (fun w H=>(H.oat (k:=0) Z).form) ?_;rintro ⟨A',c',hv,_,_,q3⟩;cases hv;obtain ⟨gR,oR,rfl⟩:=q3 (by omega);refine ae Z <| akv <| ad <| akw <| am4 Z Z <| akv <| aj Z <| ak <| ab <| ad ?_;have hdE:wN V1 L1 d=0:=by rw [wN,hfx];exact if_pos hlx
 have hsw:=hq1.del (gv hfx).1 hlx;rw [hxd] at hsw;have hxe:(x.e.r,x.e.n)=d:=hxd;have hx1:x.e.r=d.1:=am7 Prod.fst hxe;have hx2:x.e.n=d.2:=am7 Prod.snd hxe;rw [hx1,hx2] at hsw;have hDel:∀ {A0:List SP},SC Tryz.prog n4 [pp gq,y3 d] b (que gq n V1 L1::A0) (fun u F'=>∃ w,nW w=x∧u = .tuple ⟨[evV w.e,ii 0]⟩∧F'=rZ w.e.dv w.e.deps::rD w.e.rv w.e.refs::que gq n (lg V1 d.1 d.2) (bQ d L1)::A0):=fun {A0}=>(L6 hdk).mono fun u F' h=>by
  rcases h with ⟨h1,_⟩ | ⟨x',w,h1,_,h3,h4,h5⟩
  ·exact absurd hdE h1
  ·rw [hfx] at h1;cases h1;exact ⟨w,h3,h4,h5⟩
 have hew:∀ w:Wn,nW w=x→w.e.id.length=32∧nE w.e=nE x.e:=fun w hw=>by
  have h1:=(hq1.ew x (gv hfx).1).l32;rw [← hw] at h1;exact ⟨h1,by rw [← hw];rfl⟩
 refine w9 flo 15 (rO (some ⟨gR,oR,none⟩) c0 (ip V1 L1).length (ip V1 L1)::pt gg iz (gtC gq gs gp)::F) (by kernel_rfl) Z (af 7 [0,1] Z) ?_;refine q8 (T:=Nat × Wn) 13 [9,10,11,13,14] (fun q=> [(0,pp gg),(2,.slice A o c),(3,.slice (some ⟨gR,oR,none⟩) (ip V1 L1).length c0),(4,ii Pr.length),(5,pp q.1),(30,.tuple ⟨[evV q.2.e,ii 0]⟩)])
  (fun q=>pt q.1 ba (evC ev0)::rZ q.2.e.dv q.2.e.deps::rD q.2.e.rv q.2.e.refs::rO (some ⟨gR,oR,none⟩) c0 (ip V1 L1).length (ip V1 L1)::stG gg gq gs gp P1 (que gq n (lg V1 d.1 d.2) (bQ d L1)::rEn A c o D::all (evF D)::F)) (fun q=>nW q.2=x) ?_ (fun J=> ?_)
 ·rintro ⟨g5,w⟩ hw;dsimp only at hw ⊢;obtain ⟨hw32,hwn⟩:=hew w hw;have wl:=di hw32;refine pg (13,[9,10]) [] (by kernel_rfl) ⟨jm 9 2 (L2:= []) Z Z ?_,trivial⟩;refine ay Z Zl <| ay Z Zl <| ix (uH (e:=w.e) (i:=1) (j:=2) Z Z) fun hone=> ?_;refine aq <| s0 (af 10 [3,4] Z) <| jf _ Z ax ?_;refine aE (vs:=evC w.e) 0 Z Z Z Z Z Z Z Z wl (kp hone.1 hone.2) (by rw [wl];rfl) (af 10 [3,4] Z) ?_;refine aq (io (af 10 [3,4] Z) (lN 11 1 14 1 (by kernel_rfl) (by kernel_rfl) Z ?_));refine ay Z Zl <| aq <| Ns Z (af 10 [3,4] Z) <| ay Z Zl <| aq <| ab <| ad <| cn flo (rO (some ⟨gR,oR,none⟩) c0 (ip V1 L1).length (ip V1 L1)::pt gg iz (gtC gq gs gp)::F) (by decide +kernel) (af 10 [3,4] Z) <| ay Z Zl <| ay Z Zl <| ay Z Zl <| cl 1 Z Z Z Z <| ay Z Zl <| ay Z Zl <| cq Z Z ?_;refine j5 0 (Pr.length*2) Z Z Z Z Z Z Z Z (by rw [bq,am6]) (by omega) fx Z ?_;refine Ni 5 td hdk Z Z Z Z Z Z Z Z (af 10 [3,4] Z) <| aq ?_;rw [Zg];refine ab <| aa <| ae Z ?_;refine du 0 Z Z Z Z Z Z (dj (by rw [wl];rfl)) Z ?_;refine lr Z Z Z Z Z Z Z wl (by decide) fun gl=> ?_;refine ef 9 Z Z Z Z Z Z Z Z Z (m:=1) (news:=evC w.e) (fun w' H=>(H.blk (k:=0) Z).sl (by rw [wl]) (by decide)) (kp hone.1 hone.2) (by have:=hq.many;omega) (fun _=>rfl) fun v7=> ?_;refine b9 (fun w H=>(H.oat (k:=9) Z).form) ?_;rintro ⟨A7,c7,rfl,_,_,_⟩;refine ae Z <| ac <| bh ?_;have e1:qF D++evC w.e=qF (D ++ [w.e]):=by simp only [fu,flC,anv]
  rw [e1];refine rl (G:=evP w.e++(all (evF D)::rEn A7 c7 (o+1) (D ++ [w.e])::pt gg iz (gtC gq gs gp)::mpG gp (wO d P1)::all (pF P1)::que gq n (lg V1 d.1 d.2) (bQ d L1)::F)) (af 11 [2,3,10,9,5,6,7,8] Z) <| rl (ny (A:=evF (D ++ [w.e])) Dm) <| rl (af 5 [4,0,1,2,3] Z) <| rl (P7 d P1) ?_;have hev:wQ d L1=nE w.e:=by rw [wQ,hfx,hwn]
  refine ly ⟨D ++ [w.e],lg V1 d.1 d.2,bQ d L1,wO d P1,k',o+1,A7,c7⟩ (af 6 [2,1,3,4,0,5] Z) ⟨by dsimp only;omega,by dsimp only;rw [am9,ho];rfl,by dsimp only;omega,hsw,by dsimp only;rw [← P6,anu,anh,← hD1,hev];rfl,by dsimp only;rw [← P6];exact hD2⟩ hlt
 ·refine pg (8,[0,1,2,3,4,5,6,7]) [(12,[])] (by kernel_rfl) ⟨xa 0 8 Z Z Z ?_,jf _ Z ax ?_,trivial⟩
  ·refine ay Z Zl <| ay Z Zl <| ay Z Zl <| cl 1 Z Z Z Z <| ay Z Zl <| ay Z Zl <| cq Z Z ?_;refine j5 0 (Pr.length*2) Z Z Z Z Z Z Z Z (by rw [bq,am6]) (by omega) fx Z ?_
   skip
   refine d9 Z Z Z Z ((hDel (A0:=rO (some ⟨gR,oR,none⟩) c0 (ip V1 L1).length (ip V1 L1)::stG gg gq gs gp P1 (rEn A c o D::all (evF D)::F))).ent (af 7 [4,0,1,2,3,5,6] Z)) ?_;rintro _ _ ⟨w,hw,rfl,rfl⟩;refine ⟨af 9 [3,4] rfl,?_⟩;refine aq (io (af 9 [3,4] Z) (nu 12 0 (by kernel_rfl) Z ?_));refine jt Z Z Z Z Z Z (af 9 [3,4] Z) fun g5=>aq <| io (af 10 [4,5] Z) ?_
   exact J (g5,w) _ _ _ hw (by kernel_rfl) ⟨rfl,rfl,rfl,rfl,rfl,rfl,trivial⟩ (af 10 [0,1,2,4,5,6,7,3,8,9] Z)
  ·refine jt Z Z Z Z Z Z (af 7 [0,1] Z) fun g5=> ?_;refine aq (io (af 8 [1,2] Z) (nu 0 8 (by kernel_rfl) Z ?_));refine ay Z Zl <| ay Z Zl <| ay Z Zl <| cl 1 Z Z Z Z <| ay Z Zl <| ay Z Zl <| cq Z Z ?_;refine j5 0 (Pr.length*2) Z Z Z Z Z Z Z Z (by rw [bq,am6]) (by omega) fx Z ?_
   skip
   refine d9 Z Z Z Z ((hDel (A0:=pt g5 ba (evC ev0)::rO (some ⟨gR,oR,none⟩) c0 (ip V1 L1).length (ip V1 L1)::stG gg gq gs gp P1 (rEn A c o D::all (evF D)::F))).ent (af 8 [5,0,1,2,3,4,6,7] Z)) ?_;rintro _ _ ⟨w,hw,rfl,rfl⟩;refine ⟨af 10 [4,5] rfl,(aq <| io (af 10 [4,5] Z) ?_)⟩;exact J (g5,w) _ _ _ hw (by kernel_rfl) ⟨rfl,rfl,rfl,rfl,rfl,rfl,trivial⟩ (af 10 [3,0,1,4,5,6,7,2,8,9] Z)
end

theorem iC:∀ x y:List UInt8,Lib.compareBytes x y = -Lib.compareBytes y x
 | [], [] => rfl
 | [], _ :: _ => rfl
 | _ :: _, [] => rfl
 | a :: x, b :: y => by
  have ih:=iC x y;simp only [Lib.compareBytes,aqs]
  repeat' split
  all_goals omega
theorem iD {x y:List Int} (hx:lv x) (hy:lv y):pn x y=0↔x=y:=by
 constructor
 ·intro h;refine Jl hx hy (qT _ _ ?_ ?_)
  ·unfold pn at h;omega
  ·rw [iC];unfold pn at h;omega
 ·rintro rfl;have:=iC (u8l x) (u8l x);unfold pn;omega
theorem kL {x y z:List Int} (hx:lv x) (hz:lv z) (h1:pn x y<0) (h2:pn y z<0):pn x z<0 :=
 Ee hx hz (yB (Hm h1) (Hm h2)) (by rintro rfl;exact uI _ _ h1 h2)
def Eh (l:List (List Int)):Prop:=l.Pairwise fun a c=>pn a c<0
theorem As {i j:Nat} (h:i+j≤4000000):IntKind.i64.wrap ((IntKind.u64.wrap ((i:Int)+(j:Int))).fdiv (2 ^ min (Int.toNat 1) IntKind.u64.bits))=(((i+j) / 2:Nat):Int):=by
 have h1:IntKind.u64.wrap ((i:Int)+(j:Int))=(i:Int)+(j:Int):=by
  have:IntKind.u64.wrap ((i:Int)+(j:Int))=((i:Int)+(j:Int)) % 18446744073709551616:=rfl;rw [this];omega
 rw [h1,show (2:Int) ^ min (Int.toNat 1) IntKind.u64.bits=2 from rfl,I64.wrap (by rw [Int.fdiv_eq_ediv_of_nonneg _ (by omega)];unfold I64;omega),Int.fdiv_eq_ediv_of_nonneg _ (by omega)];omega
abbrev W3:Value:= .func (.func jC) ⟨[]⟩ ⟨[]⟩
section
variable {b:World} {F:List SP} {va:Value} {l:List (List Int)} {x:List Int}
theorem Ei (ha:∀ w,Sat b F w→SL w 32 va l.length (ig l)) (hl:∀ a∈l,idOk a) (hx:idOk x) (hm:l.length≤1000000) (hs:Eh l) :
  SC Tryz.prog lu [va,idV x,W3] b F (fun v F'=>(∃ l1 l2,l=l1++l2∧(∀ a∈l1,pn a x<0)∧(∀ a∈l2,¬ pn a x<0)∧v = .tuple ⟨[ii l1.length,.bool (decide (x∈l))]⟩)∧F'=F):=by
 have hl32:fT l:=fun a h=>(hl a h).1
 refine aw Tryz.func45 Z Z Z <| bu (fun w H=>cp (ha w H)) ?_;rintro ⟨A,c,rfl,h1,h2,h3,h4,_⟩;refine akw <| bx Z Z Z Z Z fun g4=>am4 Z Z <| aan <| am5 Z Z Z <| aan <| am5 Z Z Z <| akv <| ad <| am ?_
 refine dt (S:=Nat × Nat) (fun s=> [(0,.slice A l.length c),(4,pp g4),(2,W3),(8,ii l.length),(9,ii s.1),(10,ii s.2)]) (fun _=>pt g4 t_api_ID (u8s x)::F)
  (fun s=>s.1≤s.2∧s.2≤l.length∧(∀ a∈l.take s.1,pn a x<0)∧(∀ a∈l.drop s.2,¬ pn a x<0)) (fun s=>s.2 - s.1) (0,l.length) ax
  ⟨anq _,aoc _,fun a h=>by simp at h,fun a h=>by simp at h⟩ ?_
 rintro ⟨i,j⟩ ⟨hij,hjn,hlo,hhi⟩;dsimp only at hij hjn hlo hhi ⊢;refine ad <| akw <| am5 Z Z Z <| akv ?_;refine de Z (fun g1=> ?_) (fun g1=> ?_)
 ·refine ak <| ab <| am <| akw <| am4 Z Z <| az Z <| ae Z <| az Z <| am4 Z Z <| akv <| ad ?_;rw [As (by omega)];obtain ⟨m,hm⟩:∃ m,m=(i+j) / 2:=⟨_,rfl⟩;rw [← hm];have hmn:m<l.length:=by omega
  obtain ⟨gA,oA,rfl⟩:=h4 (by omega);have ca:=wj ha hl32 hmn;have hy:=hl32 _ (ana hmn);obtain ⟨y,hyl⟩:∃ y,y=l[m]:=⟨_,rfl⟩;rw [← hyl] at ca hy
  skip
  refine cn flo _ (by decide +kernel) ax <| ay Z Zl <| ay Z Zl <| ay Z Zl <| cq Z Z ?_;refine ij Z (fun w H=>cg (cs:=u8s y) Z Z Z (by rw [dr,hy];rfl) (fun j hj=>by rw [bq,am6];exact ca w (H.ent (af 1 [] Z)) j (by rw [dr,hy] at hj;exact hj))) Z Z ?_;refine js 0 Z Z Z Z Z Z (ll hx.1) Z Z <| dh Z Z Z Z (oP hy hx.1) ax <| ay Z Zl <| aq <| ab ?_;rw [hyl];refine de Z (fun g2=> ?_) (fun g2=> ?_)
  ·refine aa <| ae Z <| az Z <| ae Z <| ac <| bh ?_;refine cw (m+1,j) ax ⟨by dsimp only;omega,hjn,fun a ha'=> ?_,hhi⟩;obtain ⟨q,hq1,hq2⟩:=arb.1 ha';dsimp only at hq1;subst hq2;rcases ap3 q m with hqm | hqm
   ·exact kL (ni (hl _ (ana _))) (ni hx) (aou.1 hs q m (by omega) hmn hqm) g2
   ·have:q=m:=by omega
    subst this;exact g2
  ·refine aa <| am4 Z Z <| ac <| bh ?_;refine cw (i,m) ax ⟨by dsimp only;omega,by dsimp only;omega,hlo,fun a ha'=> ?_⟩;obtain ⟨q,hq1,hq2⟩:=aqv.1 ha';dsimp only at hq1 hq2;subst hq2;rcases aoo q with hq0 | hq0
   ·subst hq0;exact g2
   ·exact yB (x:=x) (y:=l[m]) g2 (Hm (aou.1 hs m (m+q) hmn (by omega) (by omega)))
 ·have hji:j=i:=by omega
  subst hji;have hlen:(l.take j).length=j:=by rw [anm];omega
  refine bz <| au <| av <| ap <| ab <| ad <| cn flo _ (by decide +kernel) ax ?_
  (iterate 5 refine ay Z Zl ?_)
  by_cases hin:j<l.length
  ·obtain ⟨gA,oA,rfl⟩:=h4 (by omega);have ca:=wj ha hl32 hin;have hy:=hl32 _ (ana hin);obtain ⟨y,hyl⟩:∃ y,y=l[j]:=⟨_,rfl⟩;rw [← hyl] at ca hy;have hd:l.drop j=l[j]::l.drop (j+1):=an8 hin;refine yn 39 Z (by omega) <| ay Z Zl <| ay Z Zl <| ay Z Zl <| cq Z Z ?_;refine ij Z (fun w H=>cg (cs:=u8s y) Z Z Z (by rw [dr,hy];rfl) (fun k hk=>by rw [bq,am6];exact ca w (H.ent (af 1 [] Z)) k (by rw [dr,hy] at hk;exact hk))) Z Z ?_;refine js 0 Z Z Z Z Z Z (ll hx.1) Z Z <| dh Z Z Z Z (oP hy hx.1) ax <| ay Z Zl <| ay Z Zl <| ay Z Zl <| ay Z Zl <| aq <| ab <| ai <| fz Z Z Z (af 1 [] Z) <| ⟨⟨l.take j,l.drop j,(an9 j l).symm,hlo,hhi,?_⟩,rfl⟩;rw [hlen];refine am7 (fun q=>Value.tuple ⟨[ii j,.bool q]⟩) <| aqd.2 ?_;rw [hyl,iD (ni (hl _ (ana hin))) (ni hx)]
   constructor
   ·intro h;rw [← h];exact ana hin
   ·intro h;rw [← an9 j l] at h;rcases anr.1 h with h | h
    ·have h3:=hlo x h;have:=(iD (ni hx) (ni hx)).2 Z;omega
    ·rw [hd] at h;rcases anj.1 h with h | h
     ·exact h.symm
     ·exfalso;obtain ⟨q,hq1,hq2⟩:=aqv.1 h;have h3:=aou.1 hs j (j+1+q) hin (by omega) (by omega);rw [hq2] at h3;exact hhi l[j] (by rw [hd];exact anl) h3
  ·refine vr 39 Z (by omega) ?_
   (iterate 6 refine ay Z Zl ?_)
   refine ay Z (.inr Z) <| ay Z Zl <| ay Z Zl <| ay Z Zl <| ay Z Zl <| aq <| ab <| ai <| fz Z Z Z (af 1 [] Z) <| ⟨⟨l.take j,l.drop j,(an9 j l).symm,hlo,hhi,?_⟩,rfl⟩;rw [hlen];refine am7 (fun q=>Value.tuple ⟨[ii j,.bool q]⟩) (ans fun h=> ?_).symm;rw [an1 (by omega)] at hlo;have h3:=hlo x h;have:=(iD (ni hx) (ni hx)).2 Z;omega
end

theorem m9 (a z X:List Value):spl (a++z) a.length X=a++X++z.drop X.length:=by
 unfold spl;rw [ape rfl,anh];congr 2;rw [← arm,apo rfl]
theorem ya (a c:List (List Int)):ig (a++c)=ig a++ig c:=by rw [re,re,re,fu]
theorem yE (x:List Int) (c:List (List Int)):ig (x::c)=u8s x++ig c:=by rw [re,re];rfl
theorem yF (l:List (List Int)):∀ u∈ig l,u.oneCell'=true:=by
 rw [re];exact cK fun x _=>ib x
section
variable {b:World} {F:List SP} {l1 l2:List (List Int)} {x:List Int} {gl c:Nat} {A:Option Addr}
theorem P8 (h1:fT l1) (h2:fT l2) (hx:x.length=32) (hm:(l1++l2).length≤1000000) :
  SC Tryz.prog s8 [.slice A (l1++l2).length c,ii l1.length,.slice (some ⟨gl,0,none⟩) 1 1] b (rD (.slice A (l1++l2).length c) (l1++l2)::pt gl t_api_ID (u8s x)::F) (fun v F'=>F'=rD v (l1++x::l2)::F):=by
 have xl:(u8s x).length=32:=by rw [dr,hx]
 have hl1:(ig l1).length=l1.length*32:=by rw [re];exact ju fun y hy=>by rw [dr,h1 y hy]
 have hl2:(ig l2).length=l2.length*32:=by rw [re];exact ju fun y hy=>by rw [dr,h2 y hy]
 have hn:(l1++l2).length=l1.length+l2.length:=am9;have hfin:ig (l1++x::l2)=ig l1++u8s x++ig l2:=by rw [ya,yE,anh]
 have hfl:(l1++x::l2).length=l1.length+l2.length+1:=by rw [am9,anp];omega
 refine aw Tryz.func47 Z Z Z <| bu (fun w H=>(H.oat (k:=0) Z).form) ?_;rintro ⟨A',c',hv,q1,q2,q3⟩;cases hv;refine akw <| ae Z <| aan <| am4 Z Z <| az Z <| aan <| am5 Z Z Z <| akv <| ad <| akw <| am4 Z Z <| akv <| aj Z <| ak <| ab <| akw <| am5 Z Z Z <| akv <| ad <| akw <| am5 Z Z Z <| akv ?_;by_cases he:l2 = []
 ·subst he;rw [anv] at *;refine dK 22 Z Z <| ao Z <| akw <| am4 Z Z ?_;refine ef 0 Z Z Z Z Z Z Z Z Z (m:=1) (news:=u8s x) (fun w H=>(H.blk (k:=1) Z).sl (by rw [xl]) (by decide)) (ib x) (by omega) (fun _=>rfl) fun v2=> ?_;refine ae Z <| akv <| ai <| ag ?_;have e1:ig l1++u8s x=ig (l1 ++ [x]):=by rw [ya,yE];simp [ig]
  have e2:l1.length+1=(l1 ++ [x]).length:=by simp
  rw [e1,e2];refine ar Z Z (af 2 [0] Z) ?_
  rfl
 have hl20:0<l2.length:=arh.2 he;refine oe 22 Z <| aj Z <| ak <| ab <| ad <| akw <| am4 Z Z <| az Z <| am5 Z Z Z <| akv ?_;have hpre:(ig (l1++l2)).take (l1.length*32)=ig l1:=by rw [ya,← hl1,ape rfl]
 have hpost:(ig (l1++l2)).drop (l1.length*32)=ig l2:=by rw [ya,← hl1,apo rfl]
 obtain ⟨gA,oA,rfl⟩:=q3 (by omega);by_cases hc:c<(l1++l2).length+1
 ·refine dL 31 Z <| ao Z <| akw <| am4 Z Z <| az Z <| am4 Z Z <| az Z <| ae Z <| az Z ?_;refine bm 34 (.slice (some ⟨gA,oA,none⟩) l1.length c) Z (by simp) ?_;refine bm 39 (ii ((l2.length+1:Nat):Int)) Z (by congr 1;omega) ?_;refine lL (cs:=ig l1) (j:=l1.length) (m:=l2.length+1) (c:=c) Z Z Z Z Z Z Z Z Z (fun w H=>by have:=((H.oat (k:=0) Z).take (k:=l1.length) (by omega)).sl;rwa [hpre] at this) (by omega) (by omega) (by omega) fun gg c2 zs hzs=> ?_;refine b9 (fun w H=>(H.oat (k:=0) Z).form) ?_;rintro ⟨_,_,hv2,p1,p2,_⟩;cases hv2;have hz0:(ig l1++zs).length=(l1.length+l2.length+1)*32:=by rw [am9,hl1,hzs];omega
  refine ae Z <| aan <| am4 Z Z <| az Z <| ae Z ?_;refine bm 43 (.slice (some ⟨gg,l1.length*32,none⟩) (l2.length+1) (c2 - l1.length)) Z (by
   simp only [am6];rw [if_neg (by omega)];simp only [aoh,Addr.add];rw [show l1.length+(l2.length+1) - l1.length=l2.length+1 by omega]
   split <;> simp_all) ?_
  refine nr 0 (l1.length*32) (m:=1) (news:=u8s x) (cs':=ig l1++u8s x++zs.drop 32) Z Z Z Z Z Z Z Z Z (by rw [show min 1 (l2.length+1)=1 by omega,an1 (by omega),← hl1,m9,xl]) Z (by omega) (fun w H=>(H.blk (k:=2) Z).sl (by rw [xl]) (by decide)) (by rw [hz0];omega) (fun u hu=>ib x u (aon hu)) ?_;refine akv <| ad <| cn flo F (by decide +kernel) (af 3 [] Z) <| ay Z Zl <| ay Z Zl <| ay Z Zl <| cq Z Z <| cq Z Z <| ay Z Zl <| ay Z Zl <| cq Z Z ?_;refine cz 50 (.slice (some ⟨gg,(l1.length+1)*32,none⟩) l2.length (c2 - (l1.length+1))) Z (by
   rw [show ((l1.length:Int)+((1:Nat):Int)).toNat=l1.length+1 by omega,if_neg (by omega)];simp only [aoh,Addr.add];rw [show l1.length+(l2.length+1) - (l1.length+1)=l2.length by omega]
   split <;> simp_all) ?_
  refine cz 53 (.slice (if c=l1.length then some ⟨gA,oA,none⟩ else (some (⟨gA,oA,none⟩:Addr)).map (·.add (l1.length*32))) l2.length (c - l1.length)) Z (by
   simp only [am6];rw [show (l1++l2).length - l1.length=l2.length by omega]) ?_
  refine nt 0 ((l1.length+1)*32) (m:=l2.length) (news:=ig l2) (cs':=ig l1++u8s x++ig l2) Z Z Z Z Z Z Z Z Z Z (by
   rw [Nat.min_self,an1 (by omega),show (l1.length+1)*32=(ig l1++u8s x).length by rw [am9,hl1,xl];omega,m9,aog (by rw [aoi,hzs,hl2];omega),anv]) Z (by omega) (fun w H=>by
   have:=((H.oat (k:=1) Z).drop (k:=l1.length) (by omega)).sl;rwa [hpost,show (l1++l2).length - l1.length=l2.length by omega] at this) (by simp only [am9,aoi,hl1,xl,hzs];omega) (fun u hu=>yF l2 u (aon hu)) (af 3 [] Z) ?_
  refine aq <| ab <| akw <| am4 Z Z <| akv <| ai <| ag ?_;rw [← hfin,show l1.length+(l2.length+1)=(l1++x::l2).length by omega];refine ar Z Z (af 3 [0] Z) ?_
  rfl
 refine oe 31 Z <| aj Z <| ak <| ab <| akw <| am5 Z Z Z <| az Z <| az Z <| ae Z <| akv <| ad <| akw <| am5 Z Z Z <| ae Z <| az Z <| az Z ?_;refine bm 0 (.slice (some ⟨gA,oA,none⟩) ((l1++l2).length+1) c) Z (by
  rw [show (((l1++l2).length:Int)+((1:Nat):Int)).toNat=(l1++l2).length+1 by omega]) ?_
 refine gU 0 Z (by omega) (fun _=>rfl) fun zs hzs=> ?_;have hN:(l1++l2).length+1=l1.length+(l2.length+1):=by omega
 have hI:(ig (l1++l2)).length=(l1++l2).length*32:=by rw [ya,am9,hl1,hl2];omega
 have hbase:ig (l1++l2)++zs=ig l1++(ig l2++zs):=by rw [ya,anh]
 skip
 refine bm 66 (.slice (some ⟨gA,oA+(l1.length+1)*32,none⟩) l2.length (c - (l1.length+1))) Z (by
  rw [show ((l1.length:Int)+((1:Nat):Int)).toNat=l1.length+1 by omega,if_neg (by omega)];simp only [aoh,Addr.add];rw [show (((l1++l2).length:Int)+((1:Nat):Int)).toNat - (l1.length+1)=l2.length by omega]
  split <;> simp_all) ?_
 refine zH (tS:=Cz) (tR:=tb) 1 0 Z Z Z Tryz.func127 (by kernel_rfl) (by kernel_rfl) (by kernel_rfl) (by kernel_rfl) Z Z Z Z Z (by omega) ?_;refine ae Z <| akv <| ao Z <| ad <| cn flo F (by decide +kernel) (af 2 [] Z) <| ay Z Zl <| ay Z Zl <| ay Z Zl <| cq Z Z <| cq Z Z <| ay Z Zl <| ay Z Zl <| cq Z Z ?_;refine cz 73 (.slice (some ⟨gA,oA+(l1.length+1)*32,none⟩) l2.length (c - (l1.length+1))) Z (by
  rw [show ((l1.length:Int)+((1:Nat):Int)).toNat=l1.length+1 by omega,if_neg (by omega)];simp only [aoh,Addr.add];rw [show (l1++l2).length+1 - (l1.length+1)=l2.length by omega]
  split <;> simp_all) ?_
 refine cz 76 (.slice (if c=l1.length then some ⟨gA,oA,none⟩ else (some (⟨gA,oA,none⟩:Addr)).map (·.add (l1.length*32))) (l2.length+1) (c - l1.length)) Z (by
  simp only [am6];rw [show (l1++l2).length+1 - l1.length=l2.length+1 by omega]) ?_
 have hw:(ig l2++zs).length=(l2.length+1)*32:=by rw [am9,hl2,hzs];omega
 refine nt 0 ((l1.length+1)*32) (m:=l2.length+1) (news:=ig l2++zs) (cs':=ig l1++(ig l2++zs).take 32++ig l2) Z Z Z Z Z Z Z Z Z Z (by
  rw [show min (l2.length+1) l2.length=l2.length by omega,ape hl2,hbase];have e1:ig l1++(ig l2++zs)=(ig l1++(ig l2++zs).take 32)++(ig l2++zs).drop 32:=by rw [anh,an9]
  rw [e1,show (l1.length+1)*32=(ig l1++(ig l2++zs).take 32).length by rw [am9,anm,hl1,hw];omega,m9,aog (by rw [aoi,hw,hl2];omega),anv]) Z (by omega) (fun w H=>by
  have:=((H.oat (k:=0) Z).drop (k:=l1.length) (by omega)).sl;rwa [hbase,← hl1,apo rfl,hl1,show (l1++l2).length+1 - l1.length=l2.length+1 by omega] at this) (by rw [am9,hI,hzs];omega) (fun u hu=>by
  rw [show min (l2.length+1) l2.length=l2.length by omega,ape hl2] at hu;exact yF l2 u hu) (af 2 [] Z) ?_
 refine aq <| ab <| akw <| am4 Z Z <| az Z <| ae Z ?_;refine bm 80 (.slice (some ⟨gA,oA+l1.length*32,none⟩) (l2.length+1) (c - l1.length)) Z (by
  simp only [am6];rw [if_neg (by omega)];simp only [aoh,Addr.add];rw [show (l1++l2).length+1 - l1.length=l2.length+1 by omega]
  split <;> simp_all) ?_
 refine nr 0 (l1.length*32) (m:=1) (news:=u8s x) (cs':=ig l1++u8s x++ig l2) Z Z Z Z Z Z Z Z Z (by
  rw [show min 1 (l2.length+1)=1 by omega,an1 (l:=u8s x) (by omega),← hl1,anh (ig l1),m9,xl,apo (by rw [anm,hw];omega)]) Z (by omega) (fun w H=>(H.blk (k:=1) Z).sl (by rw [xl]) (by decide)) (by simp only [am9,anm,hl1,hl2,hzs];omega) (fun u hu=>ib x u (aon hu)) ?_
 refine aan <| am4 Z Z <| akv <| ai <| ag ?_;rw [← hfin,show (l1++l2).length+1=(l1++x::l2).length by omega];refine ar Z Z (af 2 [0] Z) ?_
 rfl
end

def nj (id:List Int):BL→Option (List Int)
 | [] => none
 | e :: l => if e.1 = id then some e.2 else nj id l
def uM (X:BL):Int:=(X.map fun e=>(e.2.length:Int)).sum
theorem Uo (id:List Int) (l:List Kp):nj id (l.map fun e=>(e.id,e.b))=(qy id l).map (·.b):=by
 induction l with
 | nil => rfl
 | cons e l ih =>
  simp only [ant,nj,qy]
  split
  ·rfl
  ·exact ih
theorem Up (l:List Kp):uM (l.map fun e=>(e.id,e.b))=ww l:=by
 unfold uM ww;rw [apk]
 rfl
def xm (X:BL) (id xs:List Int) (w r:Int):Int:=if 4096<xs.length then 4 else if dg xs w=id then (match nj id X with | some y=>if y=xs then 0 else 9 | none=>if r<uM X+xs.length then 10 else 0) else 8
def gG (X:BL) (id xs:List Int) (w r:Int):Bool:=(nj id X).isNone&&decide (xm X id xs w r=0)
def kN (X:BL) (id xs:List Int) (w r:Int):BL:=if gG X id xs w r=true then X ++ [(id,xs)] else X
section
variable {b:World} {F:List SP} {gs:Nat} {w r:Int} {X:BL} {id xs:List Int} {vb:Value}
theorem ajr (hr:r≤67108864) (hid:idOk id) (hb:∀ w,Sat b F w→VL (Value.int .u8) w vb xs) (hx:lv xs) (hlen:xs.length≤1000000) :
  SC Tryz.prog ry [pp gs,idV id,vb] b (sto gs w r X::F) (fun v F'=>v = .tuple ⟨[.bool (gG X id xs w r),ii (xm X id xs w r)]⟩∧F'=sto gs w r (kN X id xs w r)::F):=by
 refine SC.opn ?_;rintro ⟨gm,u,l⟩ ⟨hst,hX⟩;dsimp only at hst hX;show SC _ _ _ _ (stB gs gm w r u l F) _;have hu0:0≤u:=by rw [hst.us];exact L8 l
 have hur:=hst.ur;have hfx:=Uo id l;have hux:=Up l;rw [hX] at hfx hux;rw [← hst.us] at hux;have hp:Ent (stB gs gm w r u l F) (sto gs w r X::F):=j6 (G:=fun s:Nat × Int × List Kp=>stB gs s.1 w r s.2.1 s.2.2 []) (p:=fun s=>StI w r s.2.1 s.2.2∧s.2.2.map (fun e=>(e.id,e.b))=X) (gm,u,l) ⟨hst,hX⟩;cases hfd:qy id l with
 | none =>
  rw [hfd] at hfx;have hfx':nj id X=none:=hfx;have hE:xm X id xs w r=fS id xs w r u:=by
   unfold xm fS;rw [hfx',hux]
  refine (Ob hb hlen hid hfd (by omega)).out ?_;intro v F' h;by_cases h0:fS id xs w r u=0
  ·rw [if_pos h0] at h;obtain ⟨h1,g,v1,h2⟩:=h;have hB:gG X id xs w r=true:=by rw [gG,hfx',hE,h0];rfl
   have h3:¬ 4096<xs.length:=fun hc=>by rw [fS,if_pos hc] at h0;omega
   have h4:dg xs w=id:=by
    refine aqu fun hc=> ?_;rw [fS,if_neg h3,if_neg hc] at h0;omega
   have h5:¬ r<u+xs.length:=fun hc=>by
    rw [fS,if_neg h3,if_pos h4,if_pos hc] at h0;omega
   subst h4;have hst':=hst.put (g:=g) (v1:=v1) hfd hx (by omega) (by omega);subst h2;refine ⟨_,j6 (G:=fun s:Nat × Int × List Kp=>stB gs s.1 w r s.2.1 s.2.2 []) (p:=fun s=>StI w r s.2.1 s.2.2∧s.2.2.map (fun e=>(e.id,e.b))=kN X (dg xs w) xs w r) (gm,_,_) ⟨hst',?_⟩,?_,rfl⟩
   ·dsimp only;rw [anu,hX,kN,if_pos hB];rfl
   ·rw [hB,hE,h0];exact h1
  ·rw [if_neg h0] at h;have hB:gG X id xs w r=false:=by rw [gG,hfx',hE];simp [h0]
   obtain ⟨h1,rfl⟩:=h;exact ⟨_,hp,by rw [hB,hE];exact h1,by rw [kN,hB];rfl⟩
 | some e =>
  rw [hfd] at hfx;have he:=L7 hfd;have hfx':nj id X=some e.b:=hfx;have hE:xm X id xs w r=xQ id xs e w:=by
   unfold xm xQ;rw [hfx']
  have hB:gG X id xs w r=false:=by rw [gG,hfx'];rfl
  refine (Od hb hlen hid hfd hx (hst.bw e he.1)).out ?_;rintro v F' ⟨h1,rfl⟩;exact ⟨_,hp,by rw [hB,hE];exact h1,by rw [kN,hB];rfl⟩
end

def Hu (id:List Int) (l:List (List Int)):List (List Int):=(l.filter fun a=>decide (pn a id<0))++id::l.filter fun a=> !decide (pn a id<0)
theorem Uq {id:List Int} {l1 l2:List (List Int)} (h1:∀ a∈l1,pn a id<0) (h2:∀ a∈l2,¬ pn a id<0):Hu id (l1++l2)=l1++id::l2:=by
 unfold Hu;rw [aov,aov];have e1:l1.filter (fun a=>decide (pn a id<0))=l1:=aom.2 fun a ha=>ani (h1 a ha)
 have e2:l2.filter (fun a=>decide (pn a id<0)) = []:=ap5.2 fun a ha=>by simpa using h2 a ha
 have e3:l1.filter (fun a=> !decide (pn a id<0)) = []:=ap5.2 fun a ha=>by simpa using h1 a ha
 have e4:l2.filter (fun a=> !decide (pn a id<0))=l2:=aom.2 fun a ha=>by simpa using h2 a ha
 rw [e1,e2,e3,e4,anv];rfl
def qI (L:List Wn) (d:Int × Int) (id:List Int):Bool:=match jr d L with
 | some x => decide (id ∈ x.e.refs)
 | none => false
def dQ (L:List Wn) (X:BL) (d:Int × Int) (id xs:List Int) (w r:Int):Int:=if (jr d L).isNone then 0 else if qI L d id=false then 2 else xm X id xs w r
def zd (L:List Wn) (C:CL) (X:BL) (d:Int × Int) (id xs:List Int) (w r:Int):Bool:=qI L d id&&decide (xm X id xs w r=0) && !decide (id∈cfm d C)
def ze (L:List Wn) (X:BL) (d:Int × Int) (id xs:List Int) (w r:Int):BL:=if qI L d id=true then kN X id xs w r else X
def uq (L:List Wn) (C:CL) (X:BL) (d:Int × Int) (id xs:List Int) (w r:Int):CL:=if zd L C X d id xs w r=true then kK d (Hu id (cfm d C)) C else C
theorem Hs.ref {d:Int × Int} {L:List Wn} {y:Ev} {s:Int} {is:Bool} (h:Hs d L y s is) (id:List Int):qI L d id=(is&&decide (id∈y.refs))∧(jr d L).isNone = !is:=by
 have h1:=h.eq;unfold uG at h1;unfold qI;cases hf:jr d L with
 | none =>
  rw [hf] at h1;have h3:is=false:=am7 (fun z=>z.2.2) h1;rw [h3];exact ⟨rfl,rfl⟩
 | some x =>
  rw [hf] at h1;have h2:y.refs=x.e.refs:=am7 (fun z=>z.1.refs) h1;have h3:is=true:=am7 (fun z=>z.2.2) h1;rw [h2,h3];exact ⟨rfl,rfl⟩
theorem Zi (d:Int × Int) (v:Value) (ids:List (List Int)) (l:List Pf):∃ l',sy d (.agg ⟨[v]⟩) (pM l)=pM l'∧prf l'=kK d ids (prf l)∧∃ B,(rD v ids::pF l).Perm (B++pF l'):=by
 induction l with
 | nil => exact ⟨[⟨d, ids, v⟩], rfl, rfl, [], .refl _⟩
 | cons e l ih =>
  by_cases h:e.d=d
  ·refine ⟨⟨d,ids,v⟩::l,?_,?_,[rD e.v e.ids],.swap _ _ _⟩
   ·simp only [pM,sy];rw [if_pos h]
   ·show _=(if e.d=d then (d,ids)::prf l else _);rw [if_pos h];rfl
  ·obtain ⟨l',h1,h2,B,h3⟩:=ih;refine ⟨e::l',?_,?_,B,?_⟩
   ·simp only [pM,sy];rw [if_neg h,h1]
   ·show (e.d,e.ids)::prf l'=(if e.d=d then _ else (e.d,e.ids)::kK d ids (prf l));rw [if_neg h,h2]
   ·exact (List.Perm.swap _ _ _).trans ((h3.cons (rD e.v e.ids)).trans an2.symm)
def RC' (C:CL):Prop:=∀ d,Eh (cfm d C)
section
variable {b:World} {F:List SP} {gg gq gs gp n:Nat} {w r:Int} {V:List Int} {L:List Wn} {X:BL} {C:CL} {d:Int × Int} {id xs:List Int} {vb:Value}
theorem Zj (hC:CK C) (hR:RC' C) (hd:lm d) (hid:idOk id) (hr:r≤67108864) (hb:∀ w,Sat b F w→VL (Value.int .u8) w vb xs) (hx:lv xs) (hlen:xs.length≤1000000) :
  SC Tryz.prog jU [pp gg,y3 d,idV id,vb] b (gat gg gq gs C::que gq n V L::sto gs w r X::F) (fun u F'=>u = .tuple ⟨[.bool (zd L C X d id xs w r),ii (dQ L X d id xs w r)]⟩∧F'=gat gg gq gs (uq L C X d id xs w r)::que gq n V L::sto gs w r (ze L X d id xs w r)::F):=by
 refine SC.opn ?_;rintro ⟨gp,P⟩ hP;dsimp only at hP;refine SC.out (R:=fun u F'=>∃ P',prf P'=uq L C X d id xs w r∧u = .tuple ⟨[.bool (zd L C X d id xs w r),ii (dQ L X d id xs w r)]⟩∧F'=stG gg gq gs gp P' (que gq n V L::sto gs w r (ze L X d id xs w r)::F)) ?_ (by
  rintro u _ ⟨P',h0,h1,rfl⟩;exact ⟨_,j6 (G:=fun s:Nat × List Pf=>stG gg gq gs s.1 s.2 []) (p:=fun s=>prf s.2=uq L C X d id xs w r) (gp,P') h0,h1,rfl⟩)
 have i32:=hid.1;show SC _ _ _ _ (stG gg gq gs gp P (que gq n V L::sto gs w r X::F)) _;refine aw Tryz.func15 Z Z Z <| bu (Hl (k:=3) Z) fun hq=> ?_;refine akw <| bx Z Z Z Z Z fun g5=>bx Z Z Z Z Z fun g6=>am4 Z Z <| akv <| ad <| akw <| ae Z <| bg Z Z Z ((Hp (F:=que gq n V L::sto gs w r X::pt g6 t_api_ID (u8s id)::pt g5 t_api_Dot [ii d.1,ii d.2]::F)).at (af 7 [2,3,4,5,6,0,1] Z) (af 7 [5,6,0,1,2,3,4] Z)) <| akv <| aj Z <| ak <| ab <| ad ?_
 refine w9 flo 12 (pt g5 t_api_Dot [ii d.1,ii d.2]::pt gg iz (gtC gq gs gp)::F) (by kernel_rfl) Z (af 7 [1,2] Z) ?_;refine q8 (T:=Nat × Ev × Int × Bool) 10 [6,7,8,10,11] (fun q=> [(0,pp gg),(3,vb),(5,pp g5),(6,pp g6),(10,pp q.1),(24,.tuple ⟨[.agg ⟨wsC q.2.1 q.2.2.1⟩,.bool q.2.2.2]⟩)])
  (fun q=>pt q.1 gu (wsC ev0 0)::rZ q.2.1.dv q.2.1.deps::rD q.2.1.rv q.2.1.refs::pt g6 t_api_ID (u8s id)::pt g5 t_api_Dot [ii d.1,ii d.2]::stG gg gq gs gp P (que gq n V L::sto gs w r X::F)) (fun q=>Hs d L q.2.1 q.2.2.1 q.2.2.2) ?_ (fun J=> ?_)
 ·rintro ⟨g10,y,s,is⟩ hs;dsimp only at hs ⊢;have h32:=hs.ew.l32;obtain ⟨hrf,hno⟩:=hs.ref id;refine pg (10,[6,7]) [] (by kernel_rfl) ⟨jm 6 2 (L2:= []) Z Z ?_,trivial⟩;refine ay Z Zl <| ay Z Zl <| ix (fun w H=>(H.oat (k:=2) Z).form) ?_;rintro ⟨A2,c2,hrv,_,_,_⟩;refine ix (uH (e:=y) (i:=1) (j:=2) Z Z) fun hone=> ?_;refine aq <| s0 (af 10 [4,5] Z) <| jf _ Z ax ?_;refine aE (vs:=wsC y s) 0 Z Z Z Z Z Z Z Z (ls h32) (mH hone.1 hone.2) (by rw [ls h32];rfl) (af 10 [4,5] Z) ?_;refine aq (io (af 10 [4,5] Z) (lN 8 1 11 1 (by kernel_rfl) (by kernel_rfl) Z ?_));refine ay Z Zl <| aq <| Ns Z (af 10 [4,5] Z) <| ay Z Zl <| aq ?_;cases is with
  | false =>
   refine ab <| ad <| am <| akw <| am5 Z Z Z <| akv <| ao Z <| akw <| am4 Z Z <| akv <| ai <| al <| ag <| fz Z Z Z (af 10 [5,6,7,8,9] Z) ?_;have hB:zd L C X d id xs w r=false:=by rw [zd,hrf];rfl
   refine ⟨P,by rw [uq,hB];exact hP,by rw [hB,dQ,if_pos (by rw [hno];rfl)];rfl,?_⟩;rw [ze,hrf];rfl
  | true =>
  refine ab <| ad <| am <| akw <| am5 Z Z Z <| akv <| aj Z <| akw <| am4 Z Z <| yk 0 Z Z Z Z Z Z ((Gz h32).trans (am7 some hrv)) Z <| du 3 Z Z Z Z Z Z (ll i32) Z ?_;refine bg Z Z Z (mR (fun w H=>by rw [← hrv];exact (H.oat (k:=2) Z).sl) hs.ew.r32 i32 hs.ln.2) ?_;by_cases hin:id∈y.refs;rotate_left
  ·rw [ans hin] at hrf ⊢;refine am4 Z Z <| akv <| ao Z <| akw <| am4 Z Z <| akv <| ai <| al <| ag <| fz Z Z Z (af 10 [5,6,7,8,9] Z) ?_;have hB:zd L C X d id xs w r=false:=by rw [zd,hrf];rfl
   refine ⟨P,by rw [uq,hB];exact hP,by rw [hB,dQ,if_neg (by rw [hno];decide),if_pos (show qI L d id=false from hrf)];rfl,?_⟩;rw [ze,hrf];rfl
  rw [ani hin] at hrf ⊢;have hX':ze L X d id xs w r=kN X id xs w r:=by rw [ze,hrf];rfl
  have hE':dQ L X d id xs w r=xm X id xs w r:=by rw [dQ,if_neg (by rw [hno];decide),if_neg (by rw [hrf];decide)]
  refine am4 Z Z <| akv <| aj Z <| ak <| bh <| ab <| ad <| ad <| cn flo (pt g6 t_api_ID (u8s id)::pt gg iz (gtC gq gs gp)::F) (by decide +kernel) (af 10 [3,5] Z) <| ay Z Zl <| ay Z Zl <| ay Z Zl <| cl 1 Z Z Z Z <| js 0 Z Z Z Z Z Z (ll i32) Z Z <| ay Z Zl <| d9 Z Z Z Z ((ajr (gs:=gs) (w:=w) (r:=r) (X:=X) (F:=pt g10 gu (wsC y s)::rZ y.dv y.deps::rD y.rv y.refs::pt g6 t_api_ID (u8s id)::pt g5 t_api_Dot [ii d.1,ii d.2]::stG gg gq gs gp P (que gq n V L::F)) hr hid (up hb (af 9 [] Z)) hx hlen).ent (af 10 [9,0,1,2,3,4,5,6,7,8] Z)) ?_;rintro _ _ ⟨rfl,rfl⟩;refine ⟨af 10 [4,6] rfl,(M8 (af 10 [1,2,3,4,5,6,7,8,9,0] Z) ?_)⟩
  (iterate 5 refine ay Z Zl ?_)
  refine aq <| ab <| akw <| am4 Z Z <| akv ?_;by_cases he:xm X id xs w r=0;rotate_left
  ·refine ik 48 (.bool true) Z (am7 Value.bool (by rw [ans he];rfl)) ?_;refine ao Z <| akw <| am5 Z Z Z <| akv <| ai <| ag <| fz Z Z Z (af 10 [5,6,7,8,9] Z) ?_;have hB:zd L C X d id xs w r=false:=by rw [zd,ans he];simp
   refine ⟨P,by rw [uq,hB];exact hP,by rw [hB,hE'];rfl,?_⟩;rw [hX']
  refine ik 48 (.bool false) Z (am7 Value.bool (by rw [ani he];rfl)) ?_;refine aj Z <| ak <| ab <| ad ?_;refine bu (fun w H=>by exact P5 (l:=P) d (k:=7) H Z) ?_;rintro ⟨A3,c3,hat⟩;have hsl:∀ {F9:List SP} {k:Nat},nth F9 k=some (all (pF P))→∀ W,Sat b F9 W→SL W 32 (.slice A3 (cfm d C).length c3) (cfm d C).length (ig (cfm d C)):=fun {F9 k} hk=>by
   have:=Zf (b:=b) (F:=F9) (k:=k) hat hk;rwa [hP] at this
  rw [hP] at hat;refine cn flo (pt g5 t_api_Dot [ii d.1,ii d.2]::pt gg iz (gtC gq gs gp)::mpG gp P::F) (by decide +kernel) (af 10 [4,5,6] Z) <| ay Z Zl <| ay Z Zl <| ay Z Zl <| cl 1 Z Z Z Z <| cl 0 Z Z Z Z <| sF 2 td hd hat Z Z Z Z Z Z Z Z Z <| jt Z Z Z Z Z Z (af 10 [4,5,6] Z) fun g14=> ?_;refine aE (vs:= [.slice A3 (cfm d C).length c3]) 0 Z Z Z Z Z Z Z Z Z (by simp [Value.oneCell']) Z (af 11 [5,6,7] Z) ?_
  skip
  refine aq <| ab <| akw <| ae Z <| bt 0 Z Z Z <| du 4 Z Z Z Z Z Z (ll i32) Z <| bf Z Z Z (Ei (hsl (k:=8) Z) (hC d).1 hid (hC d).2 (hR d)) ?_;rintro _ _ ⟨⟨l1,l2,hl,hl1,hl2,rfl⟩,rfl⟩
  (iterate 5 refine ae Z ?_)
  refine akv <| ad <| akw <| ae Z <| akv ?_;by_cases hf:id∈cfm d C
  ·refine dK 63 Z hf <| ao Z <| akw <| am4 Z Z <| akv <| ai <| ag <| fz Z Z Z (af 11 [6,7,8,9,10] Z) ?_;have hB:zd L C X d id xs w r=false:=by rw [zd,ani hf];simp
   refine ⟨P,by rw [uq,hB];exact hP,by rw [hB,hE',he];rfl,?_⟩;rw [hX']
  refine rM 63 Z hf ?_;have hB:zd L C X d id xs w r=true:=by rw [zd,hrf,ani he,ans hf];rfl
  refine aj Z <| ak <| ab <| ad ?_;refine w9 flo 14 (pt g14 mA [.slice A3 (cfm d C).length c3]::pt g6 t_api_ID (u8s id)::pt g5 t_api_Dot [ii d.1,ii d.2]::pt gg iz (gtC gq gs gp)::F) (by kernel_rfl) Z (af 11 [0,4,5,6] Z) ?_;refine q8 (T:=Nat × Option Addr × Nat) 12 [0,1,2,3,4,8,11,12,13] (fun q=> [(0,pp gg),(5,pp g5),(15,ii l1.length),(71,.slice q.2.1 (cfm d C).length q.2.2),(74,.slice (some ⟨q.1,0,none⟩) 1 1)])
   (fun q=>rD (.slice q.2.1 (cfm d C).length q.2.2) (cfm d C)::pt q.1 t_api_ID (u8s id)::pt g14 mA [.slice A3 (cfm d C).length c3]::pt g10 gu (wsC y s)::rZ y.dv y.deps::rD y.rv y.refs::pt g6 t_api_ID (u8s id)::pt g5 t_api_Dot [ii d.1,ii d.2]::stG gg gq gs gp P (que gq n V L::sto gs w r (kN X id xs w r)::F)) (fun q=>True) ?_ (fun J=> ?_)
  ·rintro ⟨gl,A7,c7⟩ _;dsimp only;have hm:=(hC d).2;have hl32:fT (l1++l2):=fun a ha=>((hC d).1 a (by rw [hl];exact ha)).1
   have hfin:uq L C X d id xs w r=kK d (l1++id::l2) (prf P):=by rw [uq,if_pos hB,hl,Uq hl1 hl2,hP]
   rw [hl] at hm ⊢;refine pg (11,[8]) [] (by kernel_rfl) ⟨jm 8 1 (L2:= []) Z Z ?_,trivial⟩;refine ay Z Zl <| aq <| s0 (af 13 [2,6,7,8] Z) <| jf _ Z ax <| d9 Z Z Z Z (P8 (l1:=l1) (l2:=l2) (x:=id) (fun a ha=>hl32 a (an5 _ ha)) (fun a ha=>hl32 a (aoj _ ha)) i32 hm) ?_;rintro v9 _ rfl;refine ⟨af 12 [1,5,6,7] rfl,(ix (fun w H=>(H.oat (k:=0) Z).form) ?_)⟩;rintro ⟨A9,c9,rfl,_,_,_⟩;refine aq (io (af 12 [1,5,6,7] Z) (pg (13,[0,1,2,3,4,12]) [] (by kernel_rfl) ⟨jm 0 5 (L2:= [12]) Z Z ?_,trivial⟩));refine ay Z Zl <| ay Z Zl <| ay Z Zl <| cl 3 Z Z Z Z <| cl 2 Z Z Z Z <| aq <| s0 (af 12 [1,5,6,7] Z) <| xa 12 1 Z Z Z <| ay Z Zl ?_;obtain ⟨P',p1,p2,B,p3⟩:=Zi d (.slice A9 (l1++id::l2).length c9) (l1++id::l2) P;refine cz 76 (.agg ⟨[.slice A9 (l1++id::l2).length c9]⟩) Z Z <| rU 8 td hd Z Z Z Z Z Z Z Z Z (af 12 [1,5,6,7] Z) ?_;refine aq (io (af 12 [1,5,6,7] Z) (yq 0 0 (by kernel_rfl) (by kernel_rfl) Z (aq ?_)));rw [p1];refine ab <| akw <| am4 Z Z <| akv <| ai <| rl (G:= [rD (.slice A9 (l1++id::l2).length c9) (l1++id::l2)]++(all (pF P)::pt gg iz (gtC gq gs gp)::mpG gp P'::que gq n V L::sto gs w r (kN X id xs w r)::F)) (af 12 [0,9,7,8,10,11] Z) <| rl (ny (A:=rD (.slice A9 (l1++id::l2).length c9) (l1++id::l2)::pF P) (.refl _)) <| rl (qd p3) <| rl (qr B) <| fz Z Z Z (af 5 [1,2,0,3,4] Z) ?_;refine ⟨P',?_,by rw [hB,hE',he];rfl,by rw [hX']⟩;rw [p2,hfin]
  ·refine pg (7,[5,6]) [(10,[9])] (by kernel_rfl) ⟨xa 5 2 Z Z Z ?_,xa 9 1 Z Z Z ?_,trivial⟩
   ·refine ay Z Zl <| cl 0 Z Z Z Z <| d9 Z Z Z Z (gX (hsl (k:=8) Z) (hC d).2) ?_;rintro v7 _ rfl;refine ⟨af 12 [1,5,6,7] rfl,(ix (fun w H=>(H.oat (k:=0) Z).form) ?_)⟩;rintro ⟨A7,c7,rfl,_,_,_⟩;refine aq (io (af 12 [1,5,6,7] Z) (nu 9 1 (by kernel_rfl) Z ?_));refine js 1 Z Z Z Z Z Z (ll i32) Z Z ?_;refine gS (cs:=u8s id) Z Z Z Z Z Z Z Z (by rw [dr,i32];rfl) (by decide) (af 12 [1,5,6,7] Z) fun gl=> ?_;refine aq <| io (af 13 [2,6,7,8] Z) ?_;exact J (gl,A7,c7) _ _ _ trivial (by kernel_rfl) ⟨rfl,rfl,rfl,rfl,rfl,trivial⟩ (af 13 [1,0,2,3,4,5,6,7,8,9,10,11,12] Z)
   ·refine js 1 Z Z Z Z Z Z (ll i32) Z Z ?_;refine gS (cs:=u8s id) Z Z Z Z Z Z Z Z (by rw [dr,i32];rfl) (by decide) (af 11 [0,4,5,6] Z) fun gl=> ?_;refine aq (io (af 12 [1,5,6,7] Z) (nu 5 2 (by kernel_rfl) Z ?_));refine ay Z Zl <| cl 0 Z Z Z Z <| d9 Z Z Z Z (gX (hsl (k:=9) Z) (hC d).2) ?_;rintro v7 _ rfl;refine ⟨af 13 [2,6,7,8] rfl,(ix (fun w H=>(H.oat (k:=0) Z).form) ?_)⟩;rintro ⟨A7,c7,rfl,_,_,_⟩;refine aq <| io (af 13 [2,6,7,8] Z) ?_;exact J (gl,A7,c7) _ _ _ trivial (by kernel_rfl) ⟨rfl,rfl,rfl,rfl,rfl,trivial⟩ ax
 ·refine pg (5,[0,1,2,3,4]) [(9,[])] (by kernel_rfl) ⟨xa 0 5 Z Z Z ?_,jf _ Z ax ?_,trivial⟩
  ·refine ay Z Zl <| ay Z Zl <| ay Z Zl <| cl 1 Z Z Z Z <| cl 0 Z Z Z Z <| d9 Z Z Z Z ((qS (gq:=gq) (n:=n) (V:=V) (L:=L) (F:=pt g6 t_api_ID (u8s id)::pt g5 t_api_Dot [ii d.1,ii d.2]::stG gg gq gs gp P (sto gs w r X::F)) hd hq).ent (af 7 [5,0,1,2,3,4,6] Z)) ?_;rintro _ _ ⟨y,s,is,hs,rfl,rfl⟩;refine ⟨af 9 [4,5] rfl,?_⟩;refine aq (io (af 9 [4,5] Z) (nu 9 0 (by kernel_rfl) Z ?_));refine jt Z Z Z Z Z Z (af 9 [4,5] Z) fun g10=>aq <| io (af 10 [5,6] Z) ?_
   exact J (g10,y,s,is) _ _ _ hs (by kernel_rfl) ⟨rfl,rfl,rfl,rfl,rfl,rfl,trivial⟩ (af 10 [0,1,2,4,5,6,7,8,3,9] Z)
  ·refine jt Z Z Z Z Z Z (af 7 [1,2] Z) fun g10=> ?_;refine aq (io (af 8 [2,3] Z) (nu 0 5 (by kernel_rfl) Z ?_));refine ay Z Zl <| ay Z Zl <| ay Z Zl <| cl 1 Z Z Z Z <| cl 0 Z Z Z Z <| d9 Z Z Z Z ((qS (gq:=gq) (n:=n) (V:=V) (L:=L) (F:=pt g10 gu (wsC ev0 0)::pt g6 t_api_ID (u8s id)::pt g5 t_api_Dot [ii d.1,ii d.2]::stG gg gq gs gp P (sto gs w r X::F)) hd hq).ent (af 8 [6,0,1,2,3,4,5,7] Z)) ?_;rintro _ _ ⟨y,s,is,hs,rfl,rfl⟩;refine ⟨af 10 [5,6] rfl,(aq <| io (af 10 [5,6] Z) ?_)⟩;exact J (g10,y,s,is) _ _ _ hs (by kernel_rfl) ⟨rfl,rfl,rfl,rfl,rfl,rfl,trivial⟩ (af 10 [3,0,1,4,5,6,7,8,2,9] Z)
end

theorem Ur (k:Nat) (a b:Int) (w:World):(Op.equalIn (k+1+1) t_api_Dot (nh a b) (nh a b)).run Tryz.prog w = .ok true w:=by
 have hS:Tryz.prog.underlying t_api_Dot=some (.struct (Tryz.prog.fieldsOf t_api_Dot)):=by kernel_rfl
 have hp:Tryz.prog.stoodInHeld t_api_Dot=false:=by kernel_rfl
 have hf : ∃ f g : Field, (Tryz.prog.fieldsOf t_api_Dot).toList = [f, g] ∧ f.name ≠ "_" ∧ g.name ≠ "_" ∧ f.type = fd ∧ g.type = fd ∧ f.offset = 0 ∧ g.offset = 1 :=
  ⟨_,_,rfl,by decide,by decide,rfl,rfl,rfl,rfl⟩
 obtain ⟨f,g,h1,h2,h3,h4,h5,h6,h7⟩:=hf;have ui:Tryz.prog.underlying fd=some (.int .i64):=by kernel_rfl
 rw [run_equalIn_struct w (k+1) t_api_Dot _ _ hS hp,h1];have p0:∀ (x y:Int),(part fd #[ii x,ii y] 0).run Tryz.prog w = .ok (ii x) w:=fun x y=>by simp [part,isAgg,run_underlying ui]
 have p1:∀ (x y:Int),(part fd #[ii x,ii y] 1).run Tryz.prog w = .ok (ii y) w:=fun x y=>by simp [part,isAgg,run_underlying ui]
 have q:∀ x y:Int,(Op.equalIn (k+1) fd (ii x) (ii y)).run Tryz.prog w = .ok (x == y) w:=fun x y=>run_equalIn_int w k fd .i64 .i64 x y ui
 simp only [Op.eqFields,h2,h3,h4,h5,h6,h7,ne_eq,not_false_eq_true,aq6,Sem.run_bind,p0,p1,q,Result.andThen_ok];simp [p1,q]
theorem amy {P:Program} {t n:Nat} {k:IntKind} [h:ArrI P t n k] (dp:Nat) {a:List Int} (ha:a.length=n) (w:World) :
  (Op.equalIn (dp+1+1) t (.agg ⟨a.map (Value.int k)⟩) (.agg ⟨a.map (Value.int k)⟩)).run P w = .ok true w:=by
 obtain ⟨e,i,h1,h2,h3,h4⟩:=h.ex;rw [run_equalIn_array w (dp+1) _ _ h1 h3];have hc:P.cellsOf e=1:=by simp [Program.cellsOf,h3,h4]
 have hp:P.plainKey e=true:=by simp [Program.plainKey,h2]
 rw [hc];have key:∀ m j,j+m=n→(Op.eqItems (dp+1) e 1 ⟨a.map (Value.int k)⟩ ⟨a.map (Value.int k)⟩ (List.range' j m)).run P w = .ok true w:=by
  intro m
  induction m with
  | zero => intro j hj; simp [Op.eqItems]
  | succ m ih =>
   intro j hj;have hja:j<a.length:=by omega
   have p1:=run_part_plain (P:=P) w hp (xs:=⟨a.map (Value.int k)⟩) (off:=j) (v:= .int k a[j]) (by simp [hja]);simp only [aqc,Op.eqItems,aop,Sem.run_bind,p1,Result.andThen_ok,run_equalIn_int w dp e k k _ _ h2];simp only [beq_self_eq_true,Bool.not_true,Bool.false_eq_true,if_false];exact ih (j+1) (by omega)
 have:=key n 0 (by omega);simpa [List.range_eq_range'] using this
theorem Ej {P : Program} {dp : Nat} {xs ys : Array Value} {f : Field} {fs : List Field} {w : World} {a c : Value} (hn : f.name ≠ "_") (ha : (part f.type xs f.offset).run P w = .ok a w) (hb : (part f.type ys f.offset).run P w = .ok c w) (he : (Op.equalIn dp f.type a c).run P w = .ok true w) :
  (Op.eqFields dp xs ys (f::fs)).run P w=(Op.eqFields dp xs ys fs).run P w:=by
 simp [Op.eqFields,hn,ha,hb,he]
section
variable {b:World} {F:List SP}
end

section
variable {b:World} {F:List SP}
variable {gg gq gs n:Nat} {w r:Int} {V:List Int} {L:List Wn} {X:BL} {C:CL} {d:Int × Int} {id:List Int} {s:ByteArray} {want:Bool} {err:Int}
end
section
variable {b:World} {F:List SP} {l:List Ev} {v:Value}
end

section
variable {b:World} {F:List SP}
end

section
variable {b:World} {F:List SP}
end

section
variable {b:World} {F:List SP}
end

structure Ag where
 kind:Int
 e:Ev
 frm:Int
 d:Int × Int
 id:List Int
 bv:Value
 bs:List Int
section
variable {b:World} {F:List SP} {is:Bool} {e:Int} {v:Value} {xs:List Int}
end
section
variable {b:World} {F:List SP} {v:Value} {l:List Ag}
end

theorem yG {id b:List Int}:∀ {X:BL} (Y:BL),nj id X=some b→nj id (X++Y)=some b
 | [], _, h => by cases h
 | e :: X, Y, h => by
  rw [aoe,nj];rw [nj] at h
  split at h
  ·rw [if_pos (by assumption)];exact h
  ·rw [if_neg (by assumption)];exact yG Y h
theorem yH {id b:List Int}:∀ {X:BL},nj id X=none→nj id (X ++ [(id,b)])=some b
 | [], _ => if_pos Z
 | e :: X, h => by
  rw [aoe,nj];rw [nj] at h
  split at h
  ·cases h
  ·rw [if_neg (by assumption)];exact yH h
theorem yI {id a b xs:List Int} {X:BL} {w r:Int} (h:nj id X=some b):nj id (kN X a xs w r)=some b:=by
 unfold kN;split
 ·exact yG _ h
 ·exact h
theorem Hv {id a b xs:List Int} {L:List Wn} {d:Int × Int} {X:BL} {w r:Int} (h:nj id X=some b):nj id (ze L X d a xs w r)=some b:=by
 unfold ze;split
 ·exact yI h
 ·exact h
theorem Ma {id xs:List Int} {X:BL} {w r:Int} (h:xm X id xs w r=0):nj id (kN X id xs w r)=some xs∧dg xs w=id:=by
 have h0:=h;unfold xm at h
 split at h
 ·cases h
 ·split at h
  ·rename_i hd
   refine ⟨?_,hd⟩;cases hf:nj id X with
   | some y =>
    rw [hf] at h;dsimp only at h
    split at h
    ·rename_i he;subst he;exact yI hf
    ·cases h
   | none =>
    have hb:gG X id xs w r=true:=by rw [gG,hf,h0];rfl
    rw [kN,if_pos hb];exact yH hf
  ·cases h
theorem Ek {d:Int × Int}:∀ {C:CL},d∉C.map (·.1)→cfm d C = []
 | [], _ => rfl
 | e :: C, h => by
  rw [ant,anj,not_or] at h;rw [cfm,if_neg (fun h1=>h.1 h1.symm)];exact Ek h.2
theorem vd {d d':Int × Int} (h:d'≠d):∀ {C:CL},cfm d' (mW d C)=cfm d' C
 | [] => rfl
 | e :: C => by
  rw [mW]
  split
  ·rename_i h1
   rw [cfm,if_neg (fun h2=>h (h2.symm.trans h1))]
  ·rw [cfm,cfm]
   split
   ·rfl
   ·exact vd h
theorem El (d:Int × Int):∀ C:CL,((mW d C).map (·.1)).Sublist (C.map (·.1))
 | [] => .slnil
 | e :: C => by
  rw [mW]
  split
  ·exact (List.Sublist.refl _).cons _
  ·exact (El d C).cons_cons _
theorem tw {d:Int × Int}:∀ {C:CL},(C.map (·.1)).Nodup→cfm d (mW d C) = []
 | [], _ => rfl
 | e :: C, h => by
  rw [ant,ao6] at h;rw [mW]
  split
  ·rename_i h1;subst h1;exact Ek h.1
  ·rename_i h1
   rw [cfm,if_neg h1];exact tw h.2
theorem tx (d:Int × Int) (ids:List (List Int)):∀ C:CL,cfm d (kK d ids C)=ids
 | [] => if_pos Z
 | e :: C => by
  rw [kK]
  split
  ·exact if_pos Z
  ·rename_i h1;rw [cfm,if_neg h1];exact tx d ids C
theorem dD {d d':Int × Int} (h:d'≠d) (ids:List (List Int)):∀ C:CL,cfm d' (kK d ids C)=cfm d' C
 | [] => if_neg fun h1 => h h1.symm
 | e :: C => by
  rw [kK]
  split
  ·rename_i h1
   rw [cfm,if_neg fun h2=>h h2.symm,cfm,if_neg fun h2=>h (h2.symm.trans h1)]
  ·rw [cfm,cfm]
   split
   ·rfl
   ·exact dD h ids C
theorem Eo (d:Int × Int) (ids:List (List Int)):∀ C:CL,(C.map (·.1)).Nodup→((kK d ids C).map (·.1)).Nodup∧∀ k∈(kK d ids C).map (·.1),k=d∨k∈C.map (·.1)
 | [], _ => ⟨by simp [kK], by simp [kK]⟩
 | e :: C, h => by
  rw [ant,ao6] at h;rw [kK]
  split
  ·rename_i h1;subst h1
   exact ⟨by rw [ant,ao6];exact h,fun k hk=> .inr hk⟩
  ·rename_i h1
   obtain ⟨h2,h3⟩:=Eo d ids C h.2;rw [ant,ao6];refine ⟨⟨fun h4=> ?_,h2⟩,fun k hk=> ?_⟩
   ·rcases h3 _ h4 with h5 | h5
    ·exact h1 h5
    ·exact h.1 h5
   ·rcases anj.1 hk with rfl | hk
    ·exact .inr (by simp)
    ·rcases h3 k hk with h5 | h5
     ·exact .inl h5
     ·exact .inr (by rw [ant];exact ank _ h5)
theorem Mb (x:List Int):pn x x=0:=by have:=iC (u8l x) (u8l x);show Lib.compareBytes _ _=0;omega
theorem Eh.nodup {l:List (List Int)} (h:Eh l):l.Nodup:=h.imp fun {a c} h1 h2=>by rw [h2,Mb] at h1;omega
theorem uN {id x:List Int} {l:List (List Int)}:x∈Hu id l↔x=id∨x∈l:=by
 unfold Hu;rw [anr,anj,anx,anx];by_cases h:pn x id<0
 ·simp [h,or_comm]
 ·simp [h]
theorem Eh.ins {id:List Int} {l:List (List Int)} (h:Eh l) (hl:∀ x∈l,lv x) (hi:lv id) (hn:id∉l):Eh (Hu id l):=by
 have lt2:∀ a∈l,¬ pn a id<0→pn id a<0:=fun a ha h1=>by
  have h2:pn a id = -pn id a:=iC _ _;have h3:pn a id≠0:=fun h4=>hn (by rw [← (iD (hl a ha) hi).1 h4];exact ha)
  omega
 refine aof.2 ⟨ao4 _ h,aod.2 ⟨fun a ha=> ?_,ao4 _ h⟩,fun a ha c hc=> ?_⟩
 ·rw [anx] at ha;exact lt2 a ha.1 (by simpa using ha.2)
 ·rw [anx] at ha;have h1:=of_decide_eq_true ha.2;rcases anj.1 hc with rfl | hc
  ·exact h1
  ·rw [anx] at hc;exact kL (hl a ha.1) (hl c hc.1) h1 (lt2 c hc.1 (by simpa using hc.2))
theorem Zk {α:Type} [DecidableEq α] {l r:List α} (hn:l.Nodup) (hs:∀ x∈l,x∈r) (hl:l.length=r.length):∀ m∈r,m∈l:=fun m hm=>by
 by_cases h:m∈l
 ·exact h
 ·have:=tu (l:=m::l) (l':=r) (ao6.2 ⟨h,hn⟩) fun x hx=>by
   rcases anj.1 hx with rfl | hx
   ·exact hm
   ·exact hs x hx
  rw [anp] at this;omega
structure GI (n:Nat) (w:Int) (V:List Int) (L:List Wn) (C:CL) (X:BL):Prop where
 q:QI n V L
 nd:(C.map (·.1)).Nodup
 ref:∀ d,∀ x∈cfm d C,qI L d x=true
 rise:RC' C
 ids:∀ d,∀ x∈cfm d C,idOk x
 got:∀ d,∀ x∈cfm d C,∃ b,nj x X=some b∧dg b w=x
theorem yb {L:List Wn} {d:Int × Int} {x:List Int} (h:qI L d x=true):∃ y,jr d L=some y∧x∈y.e.refs:=by
 unfold qI at h
 split at h
 ·rename_i y hy;exact ⟨y,hy,of_decide_eq_true h⟩
 ·cases h
theorem Au {L:List Wn} {d:Int × Int} {x:List Int} {y:Wn} (h:jr d L=some y) (hx:x∈y.e.refs):qI L d x=true:=by rw [qI,h];exact ani hx
section
variable {n:Nat} {w:Int} {V:List Int} {L:List Wn} {C:CL} {X:BL} (h:GI n w V L C X)
include h
theorem GI.ck:CK C:=fun d=>⟨h.ids d,by
 cases hc:cfm d C with
 | nil => decide
 | cons x l =>
  obtain ⟨y,hy,_⟩:=yb (h.ref d x (by rw [hc];exact anl));have h1:=tu (l:=cfm d C) (l':=y.e.refs) (h.rise d).nodup fun z hz=>by
   obtain ⟨y',hy',hz'⟩:=yb (h.ref d z hz);rw [hy] at hy';cases hy';exact hz'
  have h2:=h.q.rf y (gv hy).1;rw [← hc];omega⟩
theorem GI.ship {d:Int × Int} {id xs:List Int} {r:Int} (hid:idOk id):GI n w V L (uq L C X d id xs w r) (ze L X d id xs w r):=by
 have hg:∀ d',∀ x∈cfm d' C,∃ b,nj x (ze L X d id xs w r)=some b∧dg b w=x:=fun d' x hx=>by
  obtain ⟨b,h1,h2⟩:=h.got d' x hx;exact ⟨b,Hv h1,h2⟩
 unfold uq
 split
 ·rename_i hB
  have hB':=hB;simp only [zd,anw,aoy,Bool.not_eq_true',aqg] at hB';obtain ⟨⟨hr,hp⟩,hc⟩:=hB';obtain ⟨g1,g2⟩:=Ma hp;have key:∀ d',∀ x∈cfm d' (kK d (Hu id (cfm d C)) C),(d'=d∧x=id)∨x∈cfm d' C:=fun d' x hx=>by
   by_cases hd:d'=d
   ·subst hd;rw [tx] at hx;rcases uN.1 hx with hx | hx
    ·exact .inl ⟨rfl,hx⟩
    ·exact .inr hx
   ·rw [dD hd] at hx;exact .inr hx
  refine ⟨h.q,(Eo d _ C h.nd).1,fun d' x hx=> ?_,fun d'=> ?_,fun d' x hx=> ?_,fun d' x hx=> ?_⟩
  ·rcases key d' x hx with ⟨rfl,rfl⟩ | hx
   ·exact hr
   ·exact h.ref d' x hx
  ·by_cases hd:d'=d
   ·subst hd;rw [tx];exact (h.rise _).ins (fun x hx=>ni (h.ids _ x hx)) (ni hid) hc
   ·rw [dD hd];exact h.rise d'
  ·rcases key d' x hx with ⟨rfl,rfl⟩ | hx
   ·exact hid
   ·exact h.ids d' x hx
  ·rcases key d' x hx with ⟨rfl,rfl⟩ | hx
   ·exact ⟨xs,by rw [ze,if_pos hr];exact g1,g2⟩
   ·exact hg d' x hx
 ·exact ⟨h.q,h.nd,h.ref,h.rise,h.ids,hg⟩
theorem GI.add {e:Ev} {s:Int} (hew:EW e) (hl:e.refs.length≤1000000):GI n w V (bS V L w e s) C X:=by
 have hq:QI n V (bS V L w e s):=by
  unfold bS;split
  ·exact h.q.add hew hl
  ·exact h.q
 refine ⟨hq,h.nd,fun d x hx=> ?_,h.rise,h.ids,h.got⟩;obtain ⟨y,hy,hx'⟩:=yb (h.ref d x hx);obtain ⟨hm,hd⟩:=gv hy
 suffices ∃ y'∈bS V L w e s,y'.e=y.e by
  obtain ⟨y',h1,h2⟩:=this;exact Au (bP hq.nd h1 (by rw [dotW,h2];exact hd)) (by rw [h2];exact hx')
 unfold bS
 split
 ·unfold dB
  split
  ·exact ⟨y,hm,rfl⟩
  ·split
   ·exact ⟨_,anb.2 ⟨y,hm,rfl⟩,y8 _ _ _⟩
   ·split
    ·exact ⟨y,hm,rfl⟩
    ·exact ⟨y,(x9 _ L).symm.subset (ank _ hm),rfl⟩
 ·exact ⟨y,hm,rfl⟩
end
inductive Dls (w:Int) (X:BL):List Int→List Ev→List Int→Prop
 | nil (V : List Int) : Dls w X V [] V
 | cons {V V' : List Int} {e : Ev} {D : List Ev} (h1 : fq V e.r e.n = false) (h2 : lf e.deps V = true) (h3 : wc V e.r e.n = lg V e.r e.n) (h4 : ∀ m ∈ e.refs, ∃ b, nj m X = some b ∧ dg b w = m) (h5 : EW e) (h : Dls w X (lg V e.r e.n) D V') : Dls w X V (e :: D) V'
section
variable {n:Nat} {w:Int} {X:BL}
theorem GI.one {V:List Int} {L:List Wn} {C:CL} {d:Int × Int} {l:List (Int × Int)} (h:GI n w V L C X) (hr:n9 V L C=d::l) :
  GI n w (lg V d.1 d.2) (bQ d L) (mW d C) X∧(bQ d L).length<L.length∧∀ {D V'},Dls w X (lg V d.1 d.2) D V'→Dls w X V (wQ d L::D) V':=by
 have hm:d∈n9 V L C:=by rw [hr];exact anl
 obtain ⟨hm1,hm2⟩:=anx.1 hm;obtain ⟨x,hx,hle,rfl⟩:=iB h.q hm1;have hxm:=(gv hx).1;rw [zb,hx] at hm2;have hlen:(cfm (dotW x) C).length=x.e.refs.length:=of_decide_eq_true hm2;obtain ⟨r1,r2,r3,r4,r5⟩:=h.q.ripe hxm hle;have hev:wQ (dotW x) L=nE x.e:=by rw [wQ,hx]
 have hin:∀ m∈x.e.refs,m∈cfm (dotW x) C:=Zk (h.rise _).nodup (fun z hz=>by
  obtain ⟨y,hy,hz'⟩:=yb (h.ref _ z hz);rw [hx] at hy;cases hy;exact hz') hlen
 refine ⟨⟨h.q.del hxm hle,(El _ C).nodup h.nd,fun d' z hz=> ?_,fun d'=> ?_,fun d' z hz=> ?_,fun d' z hz=> ?_⟩,Jo hx,fun {D V'} hD=> ?_⟩
 ·by_cases hd:d'=dotW x
  ·subst hd;rw [tw h.nd] at hz;cases hz
  ·rw [vd hd] at hz;obtain ⟨y,hy,hz'⟩:=yb (h.ref _ z hz);obtain ⟨hy1,hy2⟩:=gv hy;exact Au (bP (h.q.del hxm hle).nd (bR.2 ⟨hy1,by rw [hy2];exact hd⟩) hy2) hz'
 ·by_cases hd:d'=dotW x
  ·subst hd;rw [tw h.nd];exact List.Pairwise.nil
  ·rw [vd hd];exact h.rise d'
 ·by_cases hd:d'=dotW x
  ·subst hd;rw [tw h.nd] at hz;cases hz
  ·rw [vd hd] at hz;exact h.ids d' z hz
 ·by_cases hd:d'=dotW x
  ·subst hd;rw [tw h.nd] at hz;cases hz
  ·rw [vd hd] at hz;exact h.got d' z hz
 ·rw [hev];refine .cons (h.q.new x hxm) hle ?_ (fun m hm=>h.got _ m (hin m hm)) ((h.q.ew x hxm).own _ _) hD;exact xZ h.q.num (by rw [h.q.len];exact h.q.n2) r1 r2 r3 (by show atL V x.e.r<x.e.n;omega)
theorem GI.dlv:∀ (k:Nat) {V:List Int} {L:List Wn} {C:CL},GI n w V L C X→GI n w (dlv k V L C).2.1 (dlv k V L C).2.2.1 (dlv k V L C).2.2.2 X∧Dls w X V (dlv k V L C).1 (dlv k V L C).2.1∧(dlv k V L C).1.length≤k∧(L.length≤k→n9 (dlv k V L C).2.1 (dlv k V L C).2.2.1 (dlv k V L C).2.2.2 = [])
 | 0, V, L, C, h => by
  refine ⟨h,.nil V,aoc _,fun hk=> ?_⟩;obtain rfl:L = []:=aol.1 (by omega);refine yD fun e he=> ?_;obtain ⟨x,hx,_⟩:=iB h.q he;cases hx
 | k + 1, V, L, C, h => by
  cases hr:n9 V L C with
  | nil =>
   rw [uL hr];exact ⟨h,.nil V,anq _,fun _=>hr⟩
  | cons d l =>
   obtain ⟨h1,h2,h3⟩:=h.one hr;obtain ⟨i1,i2,i3,i4⟩:=GI.dlv k h1;rw [Hr hr];exact ⟨i1,h3 i2,by simpa using i3,fun hk=>i4 (by omega)⟩
theorem GI.dlvG {V:List Int} {L:List Wn} {C:CL} (h:GI n w V L C X):GI n w (u9 V L C).2.1 (u9 V L C).2.2.1 (u9 V L C).2.2.2 X∧Dls w X V (u9 V L C).1 (u9 V L C).2.1∧(u9 V L C).1.length≤100000∧n9 (u9 V L C).2.1 (u9 V L C).2.2.1 (u9 V L C).2.2.2 = []:=by
 obtain ⟨h1,h2,h3,h4⟩:=GI.dlv L.length h;exact ⟨h1,h2,aoz h3 h.q.many,h4 (aoc _)⟩
end
theorem GI.start {n:Nat} {w:Int} (h1:1≤n) (h2:n≤16) (X:BL):GI n w (List.replicate n 0) [] [] X:=⟨QI.start h1 h2,ard,fun d x hx=>(by cases hx),fun d=>List.Pairwise.nil,fun d x hx=>(by cases hx),fun d x hx=>(by cases hx)⟩
end Go.Proofs.YtbpdffopjkhelaaGreat
