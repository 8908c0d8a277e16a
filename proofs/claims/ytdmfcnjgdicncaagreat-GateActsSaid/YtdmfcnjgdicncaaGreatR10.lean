/- Gates, part one: how a gate lies in memory; whether nobody made it. Conditions: none. -/
import Derived.Test.YtdmfcnjgdicncaaGreatR9
import Derived.Test.YtdmfcnjgdicncaaGreatR11
import Derived.Test.YtdmfcnjgdicncaaGreatR8
import Derived.Test.YtdmfcnjgdicncaaGreatR3
import Derived.Test.YtdmfcnjgdicncaaGreatR6
import Derived.Test.YtdmfcnjgdicncaaGreatR5
namespace Go.Proofs.YtdmfcnjgdicncaaGreat
open Go.Eng Go.RowKit Go.WideMaps Go.Heap

structure Pf where
 d:Int × Int
 ids:List (List Int)
 v:Value
def pM:List Pf→List ((Int × Int) × Value)
 | [] => []
 | e :: l => (e.d, .agg ⟨[e.v]⟩) :: pM l
def pF:List Pf→List SP
 | [] => []
 | e :: l => rD e.v e.ids :: pF l
abbrev CL:=List ((Int × Int) × List (List Int))
def prf (l:List Pf):CL:=l.map fun e=>(e.d,e.ids)
abbrev mpG (gp:Nat) (l:List Pf):SP:=mp gp ry j8 (pM l)
abbrev gtC (gq gs gp:Nat):List Value:= [.pointer (some ⟨gq,0,none⟩),.pointer (some ⟨gs,0,none⟩),.map (some gp)]
abbrev stG (gg gq gs gp:Nat) (l:List Pf) (F:List SP):List SP:=pt gg eu (gtC gq gs gp)::mpG gp l::all (pF l)::F
def gat (gg gq gs:Nat) (C:CL):SP:=exP (S:=Nat × List Pf) (fun s=>prf s.2=C) fun s=>stG gg gq gs s.1 s.2 []
def cfm (d:Int × Int):CL→List (List Int)
 | [] => []
 | e :: l => if e.1 = d then e.2 else cfm d l
def agd (d:Int × Int) (C:CL):Bool:=C.any fun e=>decide (e.1=d)
def zr (d:Int × Int) (ids:List (List Int)):CL→CL
 | [] => [(d, ids)]
 | e :: l => if e.1 = d then (d, ids) :: l else e :: zr d ids l
def zt (d:Int × Int):CL→CL
 | [] => []
 | e :: l => if e.1 = d then l else e :: zt d l
section
variable {b:World} {F:List SP} {gg gq gs gp:Nat} {l:List Pf}
theorem ahh:SC Tryz.prog wz [.pointer (some ⟨gg,0,none⟩)] b (stG gg gq gs gp l F) (fun v F'=>v = .bool false∧F'=stG gg gq gs gp l F):=by
 refine bf Tryz.func67 Z Z Z <| bd4 <| af Z <| a8r ?_
 (iterate 6 refine af Z ?_)
 refine df 0 Z Z Z <| bgj Z Z Z <| bd3 <| aj <| ai Z (.tmp Z .nil) (ac 0 [] Z Z) ?_
 exact ⟨rfl,rfl⟩
end
theorem a0v {A B:List SP}:Ent (A++B) (B++A):=np List.perm_append_comm
section
variable {b:World} {F:List SP} {p:Value} (hn:∀ A:List SP,SC Tryz.prog wz [p] b (A++F) (fun v F'=>v = .bool true∧F'=A++F))
include hn
end

abbrev BL:=List (List Int × List Int)
def sto (gs:Nat) (w r:Int) (X:BL):SP:=exP (S:=Nat × Int × List Kp) (fun s=>StI w r s.2.1 s.2.2∧s.2.2.map (fun e=>(e.id,e.b))=X) fun s=>stB gs s.1 w r s.2.1 s.2.2 []
section
variable {b:World} {F:List SP} {gq gs n:Nat} {w r:Int} {V:List Int} {L:List Wn} {X:BL}
theorem avj (h:ah2 w r):SC Tryz.prog ajr [.int .i64 w,.int .i64 r] b F (fun v F'=>∃ gs,v = .tuple ⟨[.pointer (some ⟨gs,0,none⟩),.int .i64 0]⟩∧F'=sto gs w r []::F):=by
 refine (as9 h).out ?_
 rintro v _ ⟨gs,gm,rfl,rfl⟩
 exact ⟨_,ib (G:=fun s:Nat × Int × List Kp=>stB gs s.1 w r s.2.1 s.2.2 []) (gm,0,[]) ⟨StI.nil w (by have:=h.2.2.1;omega),rfl⟩,gs,rfl,rfl⟩
theorem aoy:SC Tryz.prog uk [.pointer (some ⟨gs,0,none⟩)] b (sto gs w r X::F) (fun v F'=>v = .int .i64 w∧F'=sto gs w r X::F):=by
 refine SC.opn ?_
 rintro ⟨gm,u,l⟩ ⟨h1,h2⟩
 refine (a2u).out ?_
 rintro v _ ⟨rfl,rfl⟩
 exact ⟨_,ib (G:=fun s:Nat × Int × List Kp=>stB gs s.1 w r s.2.1 s.2.2 []) (gm,u,l) ⟨h1,h2⟩,rfl,rfl⟩
set_option maxRecDepth 20000 in
theorem a5m (h0:V.length≠0) (hw:w≠0):SC Tryz.prog ajs [.pointer (some ⟨gq,0,none⟩),.pointer (some ⟨gs,0,none⟩),.slice none 0 0] b (que gq n V L::sto gs w r X::F) (fun v F'=>∃ gg,v = .tuple ⟨[.pointer (some ⟨gg,0,none⟩),.int .i64 0]⟩∧F'=gat gg gq gs []::que gq n V L::sto gs w r X::F):=by
 refine bf Tryz.func12 Z Z Z <| bd4 <| cq Z Z Z Z Z fun g4=>bgi Z Z <| bd3 <| ae <| bd4 <| af Z <| bq Z Z Z ((af8 (F:=sto gs w r X::pt g4 fb [.pointer (some ⟨gs,0,none⟩)]::F)).ent (ac 3 [1,2,0] Z Z)) ?_
 rintro u _ rfl
 refine b9 (fun w H=>(H.oat (k:=0) Z).form) ?_
 rintro ⟨A1,c1,rfl,_,_,_⟩
 refine bgj Z Z Z <| f0 21 Z (fun h=>absurd h (by omega)) (fun h=>df 3 Z Z Z <| bh Z Z Z ((aoy (F:=rZ (.slice A1 V.length c1) V::que gq n V L::pt g4 fb [.pointer (some ⟨gs,0,none⟩)]::F)).at (ac 4 [2,0,1,3] Z Z) (ac 4 [1,2,0,3] Z Z)) <| bgi Z Z <| bd3 <| di Z (fun h=>absurd h hw) (fun h=>ao <| aa <| bd4 <| af Z <| df 3 Z Z Z <| ae9 ry j8 Z Z Z fun gp=>af Z <| cq Z Z Z Z Z fun gg=>af Z <| bd3 <| ae <| bd4 <| bgj Z Z Z <| bd3 <| ar <| b6 (S:=Unit) (fun _=> [(8,.pointer (some ⟨gg,0,none⟩)),(32,.int .i64 0),(33,.int .i64 0)]) (fun _=>_) (fun _=>True) (fun _=>0) () ⟨rfl,rfl,rfl,trivial⟩ (Ent.refl _) trivial ?_))
 rintro ⟨⟩ _
 refine bd4 <| af Z <| bd3 <| ae <| al Z <| bu <| av <| ax <| au <| aa <| bd4 <| bgj Z Z Z <| bd3 <| aj <| ai Z (.tmp Z (.tmp Z .nil)) ((ac 6 [0,1,3,4] Z Z).trans (((ji (G:= []) (F:=pt gg eu (gtC gq gs gp)::mpG gp []::que gq n V L::sto gs w r X::F)).trans (ac 5 [1,2,0,3,4] Z Z)).trans (ib (G:=fun s:Nat × List Pf=>stG gg gq gs s.1 s.2 []) (p:=fun s=>prf s.2 = []) (gp,[]) Z))) ?_
 exact ⟨gg,rfl,rfl⟩
end

def aa1 (V:List Int) (L:List Wn) (w:Int) (e:Ev) (s:Int):Bool:=if qt e V.length w=0 then af5 V L e s else false
def acs (V:List Int) (L:List Wn) (w:Int) (e:Ev) (s:Int):Int:=if qt e V.length w=0 then af6 V L e s else qt e V.length w
def qe (V:List Int) (L:List Wn) (w:Int) (e:Ev) (s:Int):List Wn:=if qt e V.length w=0 then xw V L e s else L
section
variable {b:World} {F:List SP} {gg gq gs n:Nat} {w r:Int} {V:List Int} {L:List Wn} {X:BL} {C:CL} {e:Ev} {s:Int}
set_option maxRecDepth 20000 in
set_option maxHeartbeats 4000000 in
theorem a5n (he:∀ w,Sat b F w→ER w e) (hew:EW e) (hl:EvL e) (hd:e.deps.length≤1000000) (hr:e.refs.length≤1000000) :
  SC Tryz.prog aff [.pointer (some ⟨gg,0,none⟩),evV e,.int .i64 s] b (gat gg gq gs C::que gq n V L::sto gs w r X::F) (fun u F'=>u = .tuple ⟨[.bool (aa1 V L w e s),.int .i64 (acs V L w e s)]⟩∧F'=gat gg gq gs C::que gq n V (qe V L w e s)::sto gs w r X::F):=by
 refine SC.opn ?_
 rintro ⟨gp,P⟩ hP
 refine SC.out (R:=fun u F'=>u = .tuple ⟨[.bool (aa1 V L w e s),.int .i64 (acs V L w e s)]⟩∧F'=stG gg gq gs gp P (que gq n V (qe V L w e s)::sto gs w r X::F)) ?_ (by
  rintro u _ ⟨h1,rfl⟩
  exact ⟨_,ib (G:=fun s:Nat × List Pf=>stG gg gq gs s.1 s.2 []) (p:=fun s=>prf s.2=C) (gp,P) hP,h1,rfl⟩)
 have h32:=hew.l32
 have el:=cu h32
 show SC _ _ _ _ (stG gg gq gs gp P (que gq n V L::sto gs w r X::F)) _
 refine bf Tryz.func13 Z Z Z <| bd4 <| cq Z Z Z Z Z fun g4=>bgi Z Z <| bd3 <| ae <| bd4 <| af Z <| bh Z Z Z ((ahh (F:=que gq n V L::sto gs w r X::pt g4 bo (evC e)::F)).at (ac 6 [1,2,3,4,5,0] Z Z) (ac 6 [5,0,1,2,3,4] Z Z)) <| bd3 <| al Z <| ao <| aa <| ae <| ae <| b7 flo (pt g4 bo (evC e)::pt gg eu (gtC gq gs gp)::F) (by decide +kernel) (ac 6 [0,1] Z Z) ?_
 refine jm 0 Z Z Z Z Z Z (fd (by rw [el];rfl)) Z Z ?_
 refine ay Z Zl <| ay Z Zl <| ay Z Zl <| de 1 Z Z Z Z <| dz Z Z Z Z ((af8 (F:=pt g4 bo (evC e)::stG gg gq gs gp P (sto gs w r X::F))).ent (ac 6 [4,0,1,2,3,5] Z Z)) ?_
 rintro u _ rfl
 refine ⟨ac 7 [2,3] Z rfl,(ie (fun w H=>(H.oat (k:=0) Z).form) ?_)⟩
 rintro ⟨A1,c1,rfl,_,_,_⟩
 refine ay Z Zl <| ay Z Zl <| ay Z Zl <| ay Z Zl <| de 1 Z Z Z Z <| cz Z Z Z Z ((aoy (F:=rZ (.slice A1 V.length c1) V::que gq n V L::pt g4 bo (evC e)::stG gg gq gs gp P F)).at (ac 7 [6,0,1,2,3,4,5] Z Z) (ac 7 [1,2,3,4,5,6,0] Z Z)) (ac 7 [2,3] Z Z) <| cz Z Z Z Z (a3k (up he (ac 7 [] Z Z)) hew hl) (ac 7 [2,3] Z Z) <| ay Z Zl <| az <| aa <| bd4 <| bgi Z Z <| bd3 ?_
 by_cases hc:qt e V.length w=0
 rotate_left
 ·refine cm 25 (.bool true) Z (congrArg Value.bool (by rw [decide_eq_false hc];rfl)) ?_
  refine aq Z <| bd4 <| bgj Z Z Z <| bd3 <| aj <| ag <| ai Z (.tmp Z (.tmp Z .nil)) (ac 7 [3,4,5,1,6] Z Z) ?_
  rw [aa1,acs,qe,if_neg hc,if_neg hc,if_neg hc]
  exact ⟨rfl,rfl⟩
 refine cm 25 (.bool false) Z (congrArg Value.bool (by rw [decide_eq_true hc];rfl)) ?_
 refine al Z <| ao <| aa <| ae <| b7 flo (pt g4 bo (evC e)::pt gg eu (gtC gq gs gp)::F) (by decide +kernel) (ac 7 [2,3] Z Z) <| ay Z Zl <| ay Z Zl <| ay Z Zl <| de 1 Z Z Z Z ?_
 refine jm 0 Z Z Z Z Z Z (fd (by rw [el];rfl)) Z Z ?_
 refine ay Z Zl <| dz Z Z Z Z ((bdu (gq:=gq) (n:=n) (V:=V) (L:=L) (F:=rZ (.slice A1 V.length c1) V::pt g4 bo (evC e)::stG gg gq gs gp P (sto gs w r X::F)) (fun w H=>(he w (H.ent (ac 6 [] Z Z))).dv) (fun w H=>(he w (H.ent (ac 6 [] Z Z))).rv) hd hr hew).ent (ac 7 [1,0,2,3,4,5,6] Z Z)) ?_
 rintro _ _ ⟨rfl,rfl⟩
 refine ⟨ac 7 [2,3] Z rfl,(ay Z Zl <| ay Z Zl <| ay Z Zl <| ay Z Zl <| az <| aa <| aj <| ai Z (.tmp Z (.tmp Z .nil)) (ac 7 [3,4,5,0,6] Z Z) ?_)⟩
 rw [aa1,acs,qe,if_pos hc,if_pos hc,if_pos hc]
 exact ⟨rfl,rfl⟩
end

def qf (d:Int × Int):List Pf→Option Pf
 | [] => none
 | e :: l => if e.d = d then some e else qf d l
theorem ak2 (d:Int × Int) (l:List Pf):ow d (pM l)=(qf d l).map fun e=> .agg ⟨[e.v]⟩:=by
 induction l with
 | nil => rfl
 | cons e l ih =>
  simp only [pM,ow,qf]
  split
  ·rfl
  ·exact ih
theorem amw (d:Int × Int) (l:List Pf):cfm d (prf l)=((qf d l).map (·.ids)).getD []:=by
 induction l with
 | nil => rfl
 | cons e l ih =>
  show (if e.d=d then e.ids else cfm d (prf l))=_
  simp only [qf]
  split
  ·rfl
  ·exact ih
theorem ac8 {d:Int × Int} {l:List Pf} {e:Pf} (h:qf d l=some e):e∈l∧e.d=d:=by
 induction l with
 | nil => cases h
 | cons x l ih =>
  simp only [qf] at h
  split at h
  ·cases h;exact ⟨List.mem_cons_self,‹_›⟩
  ·exact ⟨List.mem_cons_of_mem _ (ih h).1,(ih h).2⟩
theorem a0w {l:List Pf} {e:Pf} (h:e∈l):∃ l1 l2,l=l1++e::l2∧(pF l).Perm (rD e.v e.ids::pF (l1++l2)):=by
 obtain ⟨l1,l2,rfl⟩:=List.append_of_mem h
 refine ⟨l1,l2,rfl,?_⟩
 clear h
 induction l1 with
 | nil => exact .refl _
 | cons x l1 ih => exact (ih.cons _).trans (.swap _ _ _)
theorem yr {b:World} {F:List SP} {l:List Pf} {e:Pf} {k:Nat} (hk:nth F k=some (all (pF l))) (h:e∈l):∀ w,Sat b F w→SL w 32 e.v e.ids.length (et e.ids):=fun w hS=>by
 obtain ⟨l1,l2,_,hp⟩:=a0w h
 obtain ⟨h1,hl,hA⟩:=hS.mem.get hk
 have h2:Sat b (rD e.v e.ids::pF (l1++l2)) w:=⟨hS.os,hS.tape,hS.output,(np hp _ hA).mono hl⟩
 exact (h2.oat (k:=0) Z).sl
theorem atv {b:World} {F:List SP} {l:List Pf} {k:Nat} (d:Int × Int) {W:World} (H:Sat b F W) (hk:nth F k=some (all (pF l))) :
  ∃ A c,(ow d (pM l)).getD (.agg ⟨[.slice none 0 0]⟩) = .agg ⟨[.slice A (cfm d (prf l)).length c]⟩:=by
 rw [ak2,amw]
 cases hf:qf d l with
 | none => exact ⟨none, 0, rfl⟩
 | some e =>
  obtain ⟨A,c,h1,_⟩:=du (yr hk (ac8 hf).1 W H)
  refine ⟨A,c,?_⟩
  show (Value.agg ⟨[e.v]⟩)=_
  rw [h1];rfl
theorem a0x {b:World} {F:List SP} {l:List Pf} {k:Nat} {d:Int × Int} {A:Option Addr} {c:Nat} (h:(ow d (pM l)).getD (.agg ⟨[.slice none 0 0]⟩) = .agg ⟨[.slice A (cfm d (prf l)).length c]⟩) (hk:nth F k=some (all (pF l))) :
  ∀ W,Sat b F W→SL W 32 (.slice A (cfm d (prf l)).length c) (cfm d (prf l)).length (et (cfm d (prf l))):=fun W H=>by
 rw [ak2,amw] at h
 rw [amw]
 cases hf:qf d l with
 | none =>
  rw [hf] at h
  cases h
  exact ⟨none,0,rfl,rfl,Nat.le_refl _,by decide,fun _=>rfl,fun h=>absurd h (by decide)⟩
 | some e =>
  rw [hf] at h
  have h1:e.v = .slice A e.ids.length c:=by
   have h2:(Value.agg ⟨[e.v]⟩) = .agg ⟨[.slice A e.ids.length c]⟩:=h
   exact congrArg (fun z=>match z with | Value.agg ⟨[u]⟩=>u | _=>Value.bool false) h2
  show SL W 32 (.slice A e.ids.length c) e.ids.length (et e.ids)
  rw [← h1];exact yr hk (ac8 hf).1 W H
def pg (L:List Wn) (C:CL) (d:Int × Int):Bool:=match jc d L with
 | some x => decide ((cfm d C).length = x.e.refs.length)
 | none => false
theorem Hs.whole {d:Int × Int} {L:List Wn} {y:Ev} {s:Int} {is:Bool} (h:Hs d L y s is) (C:CL):pg L C d=(is&&decide ((cfm d C).length=y.refs.length)):=by
 have h1:=h.eq
 unfold ahd at h1
 unfold pg
 cases hf:jc d L with
 | none =>
  rw [hf] at h1
  have h3:is=false:=congrArg (fun z=>z.2.2) h1
  rw [h3];rfl
 | some x =>
  rw [hf] at h1
  have h2:y.refs=x.e.refs:=congrArg (fun z=>z.1.refs) h1
  have h3:is=true:=congrArg (fun z=>z.2.2) h1
  rw [h2,h3];rfl
section
variable {b:World} {F:List SP} {gg gq gs gp n:Nat} {V:List Int} {L:List Wn} {P:List Pf} {d:Int × Int}
set_option maxRecDepth 20000 in
set_option maxHeartbeats 4000000 in
theorem avk (hd:j8 d):SC Tryz.prog vg [.pointer (some ⟨gg,0,none⟩),ry d] b (stG gg gq gs gp P (que gq n V L::F)) (fun u F'=>u = .bool (pg L (prf P) d)∧F'=stG gg gq gs gp P (que gq n V L::F)):=by
 refine bf Tryz.func78 Z Z Z <| bd4 <| cq Z Z Z Z Z fun g3=>af Z <| bd3 <| ae <| bt (ahc (k:=4) Z) fun hq=> ?_
 refine wv (S':=Nat × Ev × Int × Bool) flo 9 0 0 [0,1,2,3,4,5,6,7,8] (OT.pre [10,11] .nil) (pt g3 t_api_Dot [.int .i64 d.1,.int .i64 d.2]::pt gg eu (gtC gq gs gp)::F) Z (by decide +kernel) Z (ac 5 [0,1] Z Z) (fun q=> [(0,.pointer (some ⟨gg,0,none⟩)),(3,.pointer (some ⟨g3,0,none⟩)),(5,.pointer (some ⟨q.1,0,none⟩)),(14,.agg ⟨wsC q.2.1 q.2.2.1⟩),(15,.bool q.2.2.2)]) (fun q=>pt q.1 b8 (wsC ev0 0)::rZ q.2.1.dv q.2.1.deps::rD q.2.1.rv q.2.1.refs::pt g3 t_api_Dot [.int .i64 d.1,.int .i64 d.2]::stG gg gq gs gp P (que gq n V L::F)) (fun q=>Hs d L q.2.1 q.2.2.1 q.2.2.2) (fun q _=>ac 8 [3,4] Z Z) ?_ (fun J=> ?_)
 ·rintro ⟨g5,y,s,is⟩ hs
  dsimp only at hs ⊢
  have h32:=hs.ew.l32
  refine mg 10 2 .nil Z Z ?_
  skip
  refine ie (fun w H=>(H.oat (k:=2) Z).form) ?_
  rintro ⟨A2,c2,hrv,_,_,_⟩
  refine ie (ux (e:=y) (i:=1) (j:=2) Z Z) fun hone=> ?_
  refine qr (vs:=wsC y s) 0 Z Z Z Z Z Z Z Z (ec h32) (ng hone.1 hone.2) (by rw [ec h32];rfl) (ac 8 [3,4] Z Z) ?_
  refine ay Z Zl <| az <| vp <| aa <| ae ?_
  refine bt (fun w H=>by exact atv (l:=P) d (k:=6) H Z) ?_
  rintro ⟨A1,c1,hat⟩
  refine b7 flo (pt g5 b8 (wsC y s)::pt g3 t_api_Dot [.int .i64 d.1,.int .i64 d.2]::pt gg eu (gtC gq gs gp)::mpG gp P::F) (by decide +kernel) (ac 8 [0,3,4,5] Z Z) <| ay Z Zl <| ay Z Zl ?_
  cases is with
  | false =>
   (iterate 15 refine ay Z Zl ?_)
   refine az <| aa <| aj <| ai Z (.tmp Z .nil) (ac 8 [4,5,6,7] Z Z) ?_
   rw [hs.whole]
   exact ⟨rfl,rfl⟩
  | true =>
   refine ay Z Zl <| ay Z Zl <| ay Z Zl <| de 2 Z Z Z Z <| de 1 Z Z Z Z <| ajp 3 uu hd hat Z Z Z Z Z Z Z Z Z <| qz Z (ayz Z Z Z Z Z Z Z) Z Z <| ay Z Zl <| ay Z Zl <| ay Z Zl <| nl 0 Z Z Z Z Z Z ((ag8 h32).trans (congrArg some hrv)) Z Z <| ay Z Zl <| ay Z Zl <| ay Z Zl <| ay Z Zl <| az <| aa <| aj <| ai Z (.tmp Z .nil) (ac 8 [4,5,6,7] Z Z) ?_
   rw [hs.whole]
   refine ⟨congrArg Value.bool ?_,rfl⟩
   simp
   omega
 ·refine az <| ma 0 5 (R2:= [5,6,7,8]) Z Z (by decide +kernel) Z (ac 5 [0,1] Z Z) <| ay Z Zl <| ay Z Zl <| ay Z Zl <| de 1 Z Z Z Z <| de 0 Z Z Z Z <| az ?_
  refine uh (R2:= [6,7,8]) Z (by decide +kernel) Z Z (ac 5 [0,1] Z Z) ?_ ?_
  ·refine m6 Z Z Z Z Z Z (ac 5 [0,1] Z Z) fun g5=>az <| aht 5 4 Z Z (ac 6 [1,2] Z Z) <| dz Z Z Z Z ((af9 (gq:=gq) (n:=n) (V:=V) (L:=L) (F:=pt g5 b8 (wsC ev0 0)::pt g3 t_api_Dot [.int .i64 d.1,.int .i64 d.2]::stG gg gq gs gp P F) hd hq).ent (ac 6 [5,0,1,2,3,4] Z Z)) ?_
   rintro _ _ ⟨y,s,is,hs,rfl,rfl⟩
   refine ⟨ac 8 [4,5] Z rfl,(ay Z Zl <| ay Z Zl <| ay Z Zl <| az ?_)⟩
   exact J (g5,y,s,is) _ _ hs ⟨rfl,rfl,rfl,rfl,rfl,trivial⟩ (ac 8 [3,0,1,4,5,6,7,2] Z Z)
  ·refine dz Z Z Z Z ((af9 (gq:=gq) (n:=n) (V:=V) (L:=L) (F:=pt g3 t_api_Dot [.int .i64 d.1,.int .i64 d.2]::stG gg gq gs gp P F) hd hq).ent (ac 5 [4,0,1,2,3] Z Z)) ?_
   rintro _ _ ⟨y,s,is,hs,rfl,rfl⟩
   refine ⟨ac 7 [3,4] Z rfl,(az <| ma 6 3 (R2:= []) Z Z (by decide +kernel) Z (ac 7 [3,4] Z Z) <| ay Z Zl <| ay Z Zl <| ay Z Zl <| az <| ww Z (by decide +kernel) Z (ac 7 [3,4] Z Z) <| m6 Z Z Z Z Z Z (ac 7 [3,4] Z Z) fun g5=>az ?_)⟩
   exact J (g5,y,s,is) _ _ hs ⟨rfl,rfl,rfl,rfl,rfl,trivial⟩ (ac 8 [0,1,2,4,5,6,7,3] Z Z)
end
open Go

abbrev dC (d:Int × Int):List Value:= [.int .i64 d.1,.int .i64 d.2]
theorem age {D:List (Int × Int)} {j:Nat} {x:Int × Int} (hj:D[j]? = some x):((oh D).drop (j*2)).take 2=dC x:=by
 obtain ⟨hl,rfl⟩:=List.getElem?_eq_some_iff.1 hj
 rw [pf]
 exact aiq (f:=dC) (fun _ _=>rfl) hl
theorem a0y {D:List (Int × Int)} {j:Nat} {x:Int × Int} (hj:j<D.length):spl (oh D) (j*2) (dC x)=oh (D.set j x):=by
 rw [pf,pf]
 exact aaf (f:=dC) (fun _ _=>rfl) Z hj
theorem axh (D:List (Int × Int)) (j:Nat):(oh D).take (j*2)=oh (D.take j):=by
 rw [pf,pf]
 exact aw2 (f:=dC) (fun _ _=>rfl) j
theorem aec {α:Type} {X:List α} {i j:Nat} {y:α} (hij:i<j) (hi:i<X.length):(X.set i y).take (i+1)=X.take i ++ [y]∧(X.set i y).drop j=X.drop j:=by
 constructor
 ·apply List.ext_getElem?
  intro k
  rw [List.getElem?_take,List.getElem?_set,List.getElem?_append,List.length_take,List.getElem?_take]
  have hm:min i X.length=i:=by omega
  rw [hm]
  by_cases h1:k<i
  ·rw [if_pos (by omega),if_neg (by omega),if_pos h1,if_pos h1]
  ·by_cases h2:k=i
   ·subst h2
    rw [if_pos (by omega),if_pos rfl,if_pos hi,if_neg (by omega),Nat.sub_self];rfl
   ·rw [if_neg (by omega),if_neg h1,List.getElem?_eq_none (by simp;omega)]
 ·apply List.ext_getElem?
  intro k
  rw [List.getElem?_drop,List.getElem?_drop,List.getElem?_set,if_neg (by omega)]
section
variable {b:World} {F:List SP} {p:Int × Int→Bool} {f:Nat} [Bodied Tryz.prog f] {pre post:List Value} {D:List (Int × Int)} {A:Option Addr} {c:Nat}
 (hc:∀ d∈D,∀ B:List SP,SC Tryz.prog f (pre++([ry d]++post)) b (B++F) (fun u F'=>u = .bool (p d)∧F'=B++F))
include hc
set_option maxRecDepth 20000 in
set_option maxHeartbeats 4000000 in
theorem ak3 (hn:D.length≤100000) :
  SC Tryz.prog po [.slice A D.length c,.func (.func f) ⟨pre⟩ ⟨post⟩] b (rO A c D.length D::F) (fun u F'=>(∃ P T,D=P++T∧(∀ e∈P,p e=false)∧(∀ t T',T=t::T'→p t=true)∧u = .int .i64 (if T = [] then -1 else (P.length:Int)))∧F'=rO A c D.length D::F):=by
 refine bf Tryz.func79 Z Z Z <| bt (fun w H=>(H.oat (k:=0) Z).form) ?_
 rintro ⟨A',c',hv,_,_,q3⟩
 cases hv
 refine bd4 <| af Z <| bd3 <| ae <| bd4 <| bgj Z Z Z <| bd3 <| ar ?_
 refine b6 (S:=Nat) (fun i=> [(0,.slice A D.length c),(1,.func (.func f) ⟨pre⟩ ⟨post⟩),(7,.int .i64 (D.length:Int)),(8,.int .i64 (i:Int))]) (fun _=>rO A c D.length D::F) (fun i=>i≤D.length∧∀ e∈D.take i,p e=false) (fun i=>D.length - i) 0 ⟨rfl,rfl,rfl,rfl,trivial⟩ (Ent.refl _) ⟨Nat.zero_le _,fun e he=>by simp at he⟩ ?_
 rintro i ⟨hi,hP⟩
 refine bd4 <| af Z <| bd3 <| ae ?_
 refine di Z (fun h1=> ?_) (fun h1=> ?_)
 ·have h1':i<D.length:=by omega
  obtain ⟨gg,oo,rfl⟩:=q3 (by omega)
  have hx:=List.getElem?_eq_getElem h1'
  have fx:=age hx
  have hcy:=hc _ (List.getElem_mem h1')
  have hsn:D.take (i+1)=D.take i ++ [D[i]]:=List.take_succ_eq_append_getElem h1'
  have hdr:D.drop i=D[i]::D.drop (i+1):=List.drop_eq_getElem_cons h1'
  generalize D[i]=y at *
  refine ao <| aa <| ae <| ar <| bd4 <| bgi Z Z <| a8r <| bgj Z Z Z <| b5 Z (by omega) ?_
  refine abn 0 (i*2) Z Z Z Z Z Z Z (by rw [bi,Int.toNat_natCast]) (by omega) fx Z ?_
  refine bh Z Z Z (hcy [rO (some ⟨gg,oo,none⟩) c D.length D]) <| bd3 ?_
  refine aua Z (fun q=> ?_) (fun q=> ?_)
  ·refine bd4 <| bgi Z Z <| bd3 <| aj <| ap <| ag <| da <| ap <| ag <| ai Z (.tmp Z .nil) (Ent.refl _) ?_
   refine ⟨⟨D.take i,D.drop i,(List.take_append_drop i D).symm,hP,fun t T' h=> ?_,?_⟩,rfl⟩
   ·rw [hdr] at h;cases h;exact q
   ·rw [hdr,if_neg (by simp),List.length_take,Nat.min_eq_left hi];rfl
  ·refine ao <| ba <| aa <| ab <| b5 Z (by (unfold I64;omega)) <| af Z <| ad <| bj (i+1) ⟨rfl,rfl,rfl,rfl,trivial⟩ (Ent.refl _) ⟨h1',fun e he=> ?_⟩ (by omega)
   rw [hsn] at he
   rcases List.mem_append.1 he with he | he
   ·exact hP e he
   ·rw [List.mem_singleton.1 he];exact q
 ·obtain rfl:i=D.length:=by omega
  rw [List.take_length] at hP
  refine bu <| av <| ax <| au <| aa <| bd4 <| af Z <| bd3 <| aj <| ai Z (.tmp Z .nil) (Ent.refl _) ?_
  exact ⟨⟨D,[],by simp,hP,(fun t T' h=>by cases h),rfl⟩,rfl⟩
set_option maxRecDepth 20000 in
set_option maxHeartbeats 4000000 in
theorem arn (hn:D.length≤100000) :
  SC Tryz.prog o5 [.slice A D.length c,.func (.func f) ⟨pre⟩ ⟨post⟩] b (rO A c D.length D::F) (fun u F'=>u = .slice A (D.filter fun e=> !p e).length c∧F'=rO A c (D.filter fun e=> !p e).length (D.filter fun e=> !p e)::F):=by
 refine bf Tryz.func75 Z Z Z <| bd4 <| af Z <| a8r <| bgi Z Z <| bq Z Z Z (ak3 hc hn) ?_
 rintro _ _ ⟨⟨P,T,hPT,hP,hT,rfl⟩,rfl⟩
 have hfP:P.filter (fun e=> !p e)=P:=List.filter_eq_self.2 fun e he=>by rw [hP e he];rfl
 cases T with
 | nil =>
  rw [if_pos rfl]
  rw [List.append_nil] at hPT
  subst hPT
  rw [hfP]
  refine af Z <| bd3 <| ae <| bd4 <| bgi Z Z <| bd3 <| aq Z <| bd4 <| bgi Z Z <| bd3 <| aj <| ag <| ai Z (.tmp Z .nil) (Ent.refl _) ?_
  exact ⟨rfl,rfl⟩
 | cons t T =>
 rw [if_neg (by simp)]
 have ht:=hT t T Z
 have hl:D.length=P.length+(T.length+1):=by rw [hPT,List.length_append,List.length_cons]
 refine b9 (fun w H=>(H.oat (k:=0) Z).form) ?_
 rintro ⟨A',c',hv,hnc,_,q3⟩
 cases hv
 obtain ⟨gg,oo,rfl⟩:=q3 (by omega)
 refine af Z <| bd3 <| ae <| bd4 <| bgi Z Z <| bd3 <| al Z <| ao <| aa <| ae <| bd4 <| af Z <| b5 Z (by (unfold I64;omega)) <| af Z <| bd3 <| ar ?_
 rw [show (P.length:Int)+1=((P.length+1:Nat):Int) by omega]
 have hti:D.take (P.length+1)=P ++ [t]:=by
  rw [hPT,List.take_append,List.take_of_length_le (by omega),Nat.add_sub_cancel_left];rfl
 refine b6 (S:=Nat × Nat × List (Int × Int)) (fun s=> [(0,.slice (some ⟨gg,oo,none⟩) D.length c),(1,.func (.func f) ⟨pre⟩ ⟨post⟩),(5,.int .i64 (s.1:Int)),(6,.int .i64 (s.2.1:Int))]) (fun s=>rO (some ⟨gg,oo,none⟩) c D.length s.2.2::F)
  (fun s=>s.1<s.2.1∧s.2.1≤D.length∧s.2.2.length=D.length∧s.2.2.take s.1=(D.take s.2.1).filter (fun e=> !p e)∧s.2.2.drop s.2.1=D.drop s.2.1) (fun s=>D.length - s.2.1) (P.length,P.length+1,D) ⟨rfl,rfl,rfl,rfl,trivial⟩ (Ent.refl _) ⟨by dsimp only;omega,by dsimp only;omega,rfl,?_,rfl⟩ ?_
 ·dsimp only
  rw [hti,List.filter_append,hfP,List.filter_cons,ht,hPT,List.take_append_of_le_length (by omega),List.take_length];simp
 rintro ⟨i,j,X⟩ ⟨hij,hj,hX,hXt,hXd⟩
 dsimp only at hij hj hX hXt hXd ⊢
 refine ae <| bd4 <| bgj Z Z Z <| af Z <| bd3 ?_
 refine di Z (fun h1=> ?_) (fun h1=> ?_)
 ·have h1':j<D.length:=by omega
  have hx:X[j]? = some D[j]:=by
   have:=congrArg (·[0]?) hXd
   simpa [List.getElem?_drop,h1'] using this
  have hsn:D.take (j+1)=D.take j ++ [D[j]]:=List.take_succ_eq_append_getElem h1'
  have fx:=age hx
  have hcy:=hc _ (List.getElem_mem h1')
  have hXd2:X.drop (j+1)=D.drop (j+1):=by
   have:=congrArg List.tail hXd
   simpa [List.tail_drop] using this
  generalize D[j]=y at *
  refine ao <| aa <| ae <| ar <| bd4 <| bgi Z Z <| b5 Z (by omega) ?_
  refine abn 0 (j*2) Z Z Z Z Z Z Z (by rw [bi,Int.toNat_natCast]) (by omega) fx Z ?_
  refine ek Z Z Z Z Z fun g7=>iv 0 Z Z Z Z <| a8r <| af Z <| df 0 Z Z Z <| bh Z Z Z (hcy [pt g7 t_api_Dot (dC y),rO (some ⟨gg,oo,none⟩) c D.length X]) <| af Z <| bd3 ?_
  refine aua Z (fun q=> ?_) (fun q=> ?_)
  ·have q':p y=false:=by simpa using q
   have hw:=a0y (x:=y) (D:=X) (j:=i) (by omega)
   have hel:=amm X
   rw [hX] at hel
   obtain ⟨e1,e2⟩:=aec (X:=X) (y:=y) hij (by omega)
   refine bd4 <| bgi Z Z <| df 0 Z Z Z <| b5 Z (by omega) ?_
   refine uf 1 (i*2) Z Z Z Z Z Z Z Z hw Z (by rw [bi,Int.toNat_natCast]) (by rw [hel];simp only [List.length_cons,List.length_nil];omega) (by simp [Value.oneCell']) ?_
   refine bd3 <| ab <| af Z <| b5 Z (by (unfold I64;omega)) <| af Z <| ad <| ba <| aa <| ab <| af Z <| b5 Z (by (unfold I64;omega)) <| af Z <| ad ?_
   rw [show (i:Int)+1=((i+1:Nat):Int) by omega,show (j:Int)+1=((j+1:Nat):Int) by omega]
   refine bj (i+1,j+1,X.set i y) ⟨rfl,rfl,rfl,rfl,trivial⟩ (ac 2 [1] Z Z) ⟨by dsimp only;omega,h1',by rw [List.length_set];exact hX,?_,?_⟩ (by dsimp only;omega)
   ·dsimp only
    rw [e1,hXt,hsn,List.filter_append,List.filter_cons,q'];rfl
   ·dsimp only
    rw [← hXd2]
    exact (aec (X:=X) (y:=y) (j:=j+1) (by omega) (by omega)).2
  ·have q':p y=true:=by simpa using q
   refine ao <| ba <| aa <| ab <| af Z <| b5 Z (by (unfold I64;omega)) <| af Z <| ad ?_
   rw [show (j:Int)+1=((j+1:Nat):Int) by omega]
   refine bj (i,j+1,X) ⟨rfl,rfl,rfl,rfl,trivial⟩ (ac 2 [1] Z Z) ⟨by dsimp only;omega,h1',hX,?_,hXd2⟩ (by dsimp only;omega)
   dsimp only
   rw [hXt,hsn,List.filter_append,List.filter_cons,q'];simp
 ·obtain rfl:j=D.length:=by omega
  rw [List.take_length] at hXt
  have hil:i=(D.filter fun e=> !p e).length:=by
   have:=congrArg List.length hXt
   rw [List.length_take] at this;omega
  have e9:=axh X i
  rw [hXt] at e9
  have hi1:((i:Int)).toNat=i:=Int.toNat_natCast i
  refine bu <| av <| ax <| au <| aa <| bd4 <| bgi Z Z <| b5 Z (by omega) ?_
  refine a9 38 (.slice (if c=i then some ⟨gg,oo,none⟩ else (some (⟨gg,oo,none⟩:Addr)).map (·.add (i*2))) (D.length - i) (c - i)) Z (by rw [hi1]) ?_
  refine ap2 0 Z Z Z Z Z Z Z Z Z Z (fun h=>by
   rw [if_neg (by omega)]
   simp only [Option.map_some,Addr.add,Option.some.injEq]
   split <;> simp_all) (by omega) ?_
  rw [e9]
  refine a8r <| bgi Z Z <| b5 Z (by omega) <| af Z <| bd3 <| aj <| ai Z (.tmp Z .nil) (Ent.refl _) ?_
  rw [← hil]
  exact ⟨rfl,rfl⟩
end

theorem scB {P:Program} {f:FuncId} {args:List Value} {b:World} {G B:List SP} {v:Value} (h:SC P f args b (G++B) (fun u F'=>u=v∧F'=G++B)):SC P f args b (B++G) (fun u F'=>u=v∧F'=B++G):=by
 refine (h.ent a0v).out ?_
 rintro u _ ⟨h1,rfl⟩
 exact ⟨_,a0v,h1,rfl⟩
def gz (V:List Int) (L:List Wn) (C:CL):List (Int × Int):=(gn V L).filter (pg L C)
section
variable {b:World} {F:List SP} {gg gq gs gp g1 n:Nat} {V:List Int} {L:List Wn} {P:List Pf} {C:CL} {d:Int × Int}
set_option maxRecDepth 20000 in
theorem a0z (hd:j8 d):SC Tryz.prog sv [ry d,.pointer (some ⟨g1,0,none⟩)] b (pt g1 n5 [.pointer (some ⟨gg,0,none⟩)]::stG gg gq gs gp P (que gq n V L::F)) (fun u F'=>u = .bool (!pg L (prf P) d)∧F'=pt g1 n5 [.pointer (some ⟨gg,0,none⟩)]::stG gg gq gs gp P (que gq n V L::F)):=by
 refine bf Tryz.func77 Z Z Z <| bd4 <| cq Z Z Z Z Z fun g2=>af Z <| a8r <| df 1 Z Z Z <| df 0 Z Z Z <| bh Z Z Z ((avk (F:=pt g2 t_api_Dot [.int .i64 d.1,.int .i64 d.2]::pt g1 n5 [.pointer (some ⟨gg,0,none⟩)]::F) hd).at (ac 6 [2,3,4,5,0,1] Z Z) (ac 6 [4,5,0,1,2,3] Z Z)) <| bgi Z Z <| bd3 <| aj <| ai Z (.tmp Z .nil) (ac 6 [1,2,3,4,5] Z Z) ?_
 exact ⟨rfl,rfl⟩
set_option maxRecDepth 20000 in
set_option maxHeartbeats 4000000 in
theorem aoz:SC Tryz.prog u9 [.pointer (some ⟨gg,0,none⟩)] b (gat gg gq gs C::que gq n V L::F) (fun u F'=>∃ A c,u = .slice A (gz V L C).length c∧F'=rO A c (gz V L C).length (gz V L C)::gat gg gq gs C::que gq n V L::F):=by
 refine SC.opn ?_
 rintro ⟨gp,P⟩ hP
 refine SC.out (R:=fun u F'=>∃ A c,u = .slice A (gz V L C).length c∧F'=rO A c (gz V L C).length (gz V L C)::stG gg gq gs gp P (que gq n V L::F)) ?_ (by
  rintro u _ ⟨A,c,h1,rfl⟩
  exact ⟨_,ik (ib (G:=fun s:Nat × List Pf=>stG gg gq gs s.1 s.2 []) (p:=fun s=>prf s.2=C) (gp,P) hP),A,c,h1,rfl⟩)
 dsimp only at hP
 subst hP
 show SC _ _ _ _ (stG gg gq gs gp P (que gq n V L::F)) _
 refine bf Tryz.func16 Z Z Z <| bt (ahc (k:=3) Z) fun hq=>bd4 <| cq Z Z Z Z Z fun g1=>af Z <| bd3 <| ae <| bd4 <| df 0 Z Z Z <| bh Z Z Z ((ahh (F:=que gq n V L::pt g1 n5 [.pointer (some ⟨gg,0,none⟩)]::F)).at (ac 5 [1,2,3,4,0] Z Z) (ac 5 [4,0,1,2,3] Z Z)) <| bd3 <| al Z <| ao <| aa <| bd4 <| df 0 Z Z Z <| bgi Z Z <| df 1 Z Z Z <| bq Z Z Z ((a0g (F:=pt g1 n5 [.pointer (some ⟨gg,0,none⟩)]::stG gg gq gs gp P F)).ent (ac 5 [4,0,1,2,3] Z Z)) ?_
 rintro _ _ ⟨A,c,rfl,rfl⟩
 have hrl:(gn V L).length≤100000:=by
  have h1:(gn V L).length≤L.length:=by unfold gn;rw [List.length_map];exact List.length_filter_le _ _
  have:=hq.many;omega
 refine af Z ?_
 refine bq Z Z Z ((arn (f:=sv) (pre:= []) (post:= [.pointer (some ⟨g1,0,none⟩)]) (p:=fun d=> !pg L (prf P) d) (D:=gn V L) (F:=pt g1 n5 [.pointer (some ⟨gg,0,none⟩)]::stG gg gq gs gp P (que gq n V L::F)) (fun d hd B=>by
  refine scB ?_
  exact a0z (F:=F++B) (ac7 hq hd)) hrl).ent (ac 6 [0,2,3,4,5,1] Z Z)) ?_
 rintro _ _ ⟨rfl,rfl⟩
 refine af Z <| bd3 <| aj ?_
 have e:(gn V L).filter (fun e=> !!pg L (prf P) e)=gz V L (prf P):=by
  unfold gz
  congr 1
  funext d
  rw [Bool.not_not]
 rw [e]
 refine ai Z (.tmp Z .nil) (ac 6 [0,2,3,4,5] Z Z) ?_
 exact ⟨A,c,rfl,rfl⟩
end

structure Wt where
 d:Int × Int
 id:List Int
 to:Int
def wtC (w:Wt):List Value:= .int .i64 w.d.1 :: .int .i64 w.d.2::(u8s w.id ++ [.int .i64 w.to])
theorem yb {w:Wt} (h:w.id.length=32):(wtC w).length=35:=by simp [wtC,h]
theorem avl (w:Wt):∀ u∈wtC w,u.oneCell'=true:=by
 intro u hu
 simp only [wtC,List.mem_cons,List.mem_append,List.mem_map,List.not_mem_nil,or_false] at hu
 rcases hu with rfl | rfl | ⟨_,_,rfl⟩ | rfl <;> rfl
def ly (C:CL) (w:Wn) (refs:List (List Int)):List Wt:=(refs.filter fun x=> !decide (x∈cfm (dotW w) C)).map fun x=>⟨dotW w,x,w.src⟩
def ir (L:List Wn) (C:CL):List Wt:=L.flatMap fun w=>ly C w w.e.refs
theorem ac9 (L:List Wn) (C:CL):ir (L.map nW) C=ir L C:=by
 unfold ir
 rw [List.flatMap_map]
 rfl
theorem ah6 (l:List Wn) (x:Wn) (C:CL):ir (l ++ [x]) C=ir l C++ly C x x.e.refs:=by simp [ir]
theorem yc (C:CL) (w:Wn) (l:List (List Int)) (x:List Int):ly C w (l ++ [x])=ly C w l++(if x∈cfm (dotW w) C then [] else [⟨dotW w,x,w.src⟩]):=by
 unfold ly
 rw [List.filter_append,List.map_append]
 congr 1
 by_cases h:x∈cfm (dotW w) C <;> simp [h]
theorem amx {L l1 l2:List Wn} {x:Wn} {r1 r2:List (List Int)} (C:CL) (h:L=l1++x::l2) (hr:x.e.refs=r1++r2):(ir l1 C++ly C x r1).length≤(ir L C).length:=by
 subst h
 unfold ir
 rw [List.flatMap_append,List.flatMap_cons]
 have:ly C x x.e.refs=ly C x r1++ly C x r2:=by rw [hr];unfold ly;rw [List.filter_append,List.map_append]
 rw [this]
 simp only [List.length_append]
 omega
def CK (C:CL):Prop:=∀ d,(∀ x∈cfm d C,idOk x)∧(cfm d C).length≤1000000
abbrev rWt (A:Option Addr) (c n:Nat) (W:List Wt):SP:=row t_api_Want 35 (.slice A n c) n (flC wtC W)
section
variable {b:World} {F:List SP} {gg gq gs gp n:Nat} {V:List Int} {L:List Wn} {P:List Pf} {C:CL}
set_option maxRecDepth 20000 in
set_option maxHeartbeats 8000000 in
theorem ao0 (hC:CK C) (hM:(ir L C).length≤60000000):SC Tryz.prog adh [.pointer (some ⟨gg,0,none⟩)] b (gat gg gq gs C::que gq n V L::F) (fun u F'=>∃ A c,u = .slice A (ir L C).length c∧F'=rWt A c (ir L C).length (ir L C)::gat gg gq gs C::que gq n V L::F):=by
 refine SC.opn ?_
 rintro ⟨gp,P⟩ hP
 refine SC.out (R:=fun u F'=>∃ A c,u = .slice A (ir L C).length c∧F'=rWt A c (ir L C).length (ir L C)::stG gg gq gs gp P (que gq n V L::F)) ?_ (by
  rintro u _ ⟨A,c,h1,rfl⟩
  exact ⟨_,ik (ib (G:=fun s:Nat × List Pf=>stG gg gq gs s.1 s.2 []) (p:=fun s=>prf s.2=C) (gp,P) hP),A,c,h1,rfl⟩)
 dsimp only at hP
 subst hP
 show SC _ _ _ _ (stG gg gq gs gp P (que gq n V L::F)) _
 refine bf Tryz.func15 Z Z Z <| bt (ahc (k:=3) Z) fun hq=>bd4 <| af Z <| bd3 <| ae <| bd4 <| af Z <| bh Z Z Z (ahh (F:=que gq n V L::F)) <| bd3 <| al Z <| ao <| aa <| ae <| bd4 <| bgj Z Z Z <| df 0 Z Z Z <| bq Z Z Z ((a0h (F:=stG gg gq gs gp P F)).ent (ac 4 [3,0,1,2] Z Z)) ?_
 rintro v _ ⟨D,hD,rfl⟩
 refine b9 (fun w H=>(H.oat (k:=0) Z).form) ?_
 rintro ⟨A0,c0,rfl,_,_,k3⟩
 have hDm:=hq.many
 have hDl:D.length=L.length:=by rw [← hD,List.length_map]
 have hMD:(ir D (prf P)).length≤60000000:=by rw [← ac9,hD];exact hM
 have hDe:∀ x∈D,EW x.e∧j8 (dotW x)∧x.e.refs.length≤1000000:=fun x hx=>by
  have hm:nW x∈L:=by rw [← hD];exact List.mem_map.2 ⟨x,hx,rfl⟩
  exact ⟨(hq.ew _ hm).own x.e.dv x.e.rv,(show j8 (dotW (nW x)) from hq.dotOk hm),(show (nW x).e.refs.length≤_ from hq.rf _ hm)⟩
 refine bgi Z Z <| bd3 <| ar ?_
 refine b6 (S:=Nat × List Wt × Nat × Option Addr × Nat) (fun s=> [(0,.pointer (some ⟨gg,0,none⟩)),(2,.slice s.2.2.2.1 s.2.2.1 s.2.2.2.2),(13,.slice A0 D.length c0),(14,.int .i64 D.length),(15,.int .i64 (s.1:Int))])
  (fun s=>rWt s.2.2.2.1 s.2.2.2.2 s.2.2.1 s.2.1::rWs (.slice A0 D.length c0) D::all (wsF D)::stG gg gq gs gp P (que gq n V L::F)) (fun s=>s.1≤D.length∧s.2.1=ir (D.take s.1) (prf P)∧s.2.1.length=s.2.2.1) (fun s=>D.length - s.1) (0,[],0,none,0) ⟨rfl,rfl,rfl,rfl,rfl,trivial⟩ ?_ ⟨Nat.zero_le _,rfl,rfl⟩ ?_
 ·exact (eh t_api_Want 35 Z).trans (ac 7 [0,1,2,4,5,6,3] Z Z)
 rintro ⟨i,W,o,A,c⟩ ⟨hi1,hW,ho⟩
 dsimp only at hi1 hW ho ⊢
 refine bd4 <| af Z <| bd3 <| ae ?_
 refine di Z (fun h1=> ?_) (fun h1=> ?_)
 ·have h1':i<D.length:=by omega
  obtain ⟨gD,oD,rfl⟩:=k3 (by omega)
  have hsp:D=D.take i++D[i]::D.drop (i+1):=by rw [← List.drop_eq_getElem_cons h1',List.take_append_drop]
  have hmem:=List.getElem_mem h1'
  have fx:=aiq (f:=waC) (fun a ha=>ec (hDe a ha).1.l32) h1'
  have hsn:ir (D.take (i+1)) (prf P)=W++ly (prf P) D[i] D[i].e.refs:=by rw [List.take_succ_eq_append_getElem h1',ah6,hW]
  generalize D[i]=x at *
  obtain ⟨hew,hdk,hrl⟩:=hDe x hmem
  have hx32:=hew.l32
  have xl:=ec (s:=x.src) hx32
  refine ao <| aa <| ae <| ar <| bd4 <| b5 Z (by omega) ?_
  refine abn 1 (i*40) Z Z Z Z Z Z Z (by rw [bi,Int.toNat_natCast]) (by omega) fx (by rw [xl];rfl) ?_
  refine b9 (fun w H=>du (pd (k:=2) Z hmem w H).rv) ?_
  rintro ⟨A1,c1,hrv,_,_,_,q3,_⟩
  refine b9 (fun w H=>(pd (k:=2) Z hmem w H).dv.form) ?_
  rintro ⟨A2,c2,hdv,_⟩
  refine ek Z Z Z Z Z fun g4=> ?_
  refine im 0 Z Z Z Z Z Z Z xl (ng (by rw [hdv];rfl) (by rw [hrv];rfl)) (by rw [xl];rfl) ?_
  refine a8r <| bgi Z Z <| kr 0 Z Z Z Z Z Z ((ag8 hx32).trans (congrArg some hrv)) Z <| bgi Z Z <| bd3 <| ar ?_
  refine b6 (S:=Nat × List Wt × Nat × Option Addr × Nat) (fun s=> [(0,.pointer (some ⟨gg,0,none⟩)),(2,.slice s.2.2.2.1 s.2.2.1 s.2.2.2.2),(4,.pointer (some ⟨g4,0,none⟩)),(13,.slice (some ⟨gD,oD,none⟩) D.length c0),(14,.int .i64 D.length),(15,.int .i64 (i:Int)),(21,.slice A1 x.e.refs.length c1),(22,.int .i64 x.e.refs.length),(23,.int .i64 (s.1:Int))])
   (fun s=>rWt s.2.2.2.1 s.2.2.2.2 s.2.2.1 s.2.1::pt g4 b8 (wsC x.e x.src)::rWs (.slice (some ⟨gD,oD,none⟩) D.length c0) D::all (wsF D)::stG gg gq gs gp P (que gq n V L::F)) (fun s=>s.1≤x.e.refs.length∧s.2.1=W++ly (prf P) x (x.e.refs.take s.1)∧s.2.1.length=s.2.2.1) (fun s=>x.e.refs.length - s.1) (0,W,o,A,c) ⟨rfl,rfl,rfl,rfl,rfl,rfl,rfl,rfl,rfl,trivial⟩ (ac 2 [1,0] Z Z) ⟨Nat.zero_le _,by simp [ly],ho⟩ ?_
  rintro ⟨k,W',o',A',c'⟩ ⟨hk1,hW',ho'⟩
  dsimp only at hk1 hW' ho' ⊢
  refine bd4 <| af Z <| bd3 <| ae ?_
  refine di Z (fun h2=> ?_) (fun h2=> ?_)
  ·have h2':k<x.e.refs.length:=by omega
   obtain ⟨gR,oR,rfl⟩:=q3 (by omega)
   have ca:=jt (l:=x.e.refs) (gA:=gR) (oA:=oR) (c:=c1) (b:=b) (F:=rWt A' c' o' W'::pt g4 b8 (wsC x.e x.src)::rWs (.slice (some ⟨gD,oD,none⟩) D.length c0) D::all (wsF D)::stG gg gq gs gp P (que gq n V L::F)) (fun w H=>by rw [← hrv];exact (pd (k:=3) Z hmem w H).rv) hew.r32 h2'
   have hy:=hew.r32 _ (List.getElem_mem h2')
   have htk:x.e.refs.take (k+1)=x.e.refs.take k ++ [x.e.refs[k]]:=List.take_succ_eq_append_getElem h2'
   have hrs:x.e.refs=x.e.refs.take (k+1)++x.e.refs.drop (k+1):=(List.take_append_drop _ _).symm
   generalize x.e.refs[k]=y at ca hy htk
   refine ao <| aa <| ae <| ar <| bd4 <| b5 Z (by omega) ?_
   refine iu Z (fun w H=>cn (cs:=u8s y) Z Z Z (by rw [bg,hy];rfl) (fun j hj=>by rw [bi,Int.toNat_natCast];exact ca w H j (by rw [bg,hy] at hj;exact hj))) Z ?_
   refine ek Z Z Z Z Z fun g6=> ?_
   refine im 0 Z Z Z Z Z Z Z (by rw [bg,hy];rfl) (dt y) (by rw [bg,hy];rfl) ?_
   refine bd3 <| ae ?_
   refine bt (fun w H=>by exact atv (l:=P) (dotW x) (k:=7) H Z) ?_
   rintro ⟨A3,c3,hat⟩
   refine b7 flo (pt g6 t_api_ID (u8s y)::pt g4 b8 (wsC x.e x.src)::pt gg eu (gtC gq gs gp)::mpG gp P::F) (by decide +kernel) (ac 9 [0,2,5,6] Z Z) <| ay Z Zl <| ay Z Zl <| ay Z Zl <| de 2 Z Z Z Z <| ay Z Zl <| ay Z Zl <| de 1 Z Z Z Z <| ajp 3 uu hdk hat Z Z Z Z Z Z Z Z Z <| qz Z (ayz Z Z Z Z Z Z Z) Z Z ?_
   skip
   refine jm 0 Z Z Z Z Z Z (ig hy) Z Z <| cz Z Z Z Z (wa (a0x hat (k:=7) Z) (fun a ha=>((hC _).1 a ha).1) hy (hC _).2) (ac 9 [0,2,5,6] Z Z) <| ay Z Zl <| az ?_
   by_cases hin:y∈cfm (dotW x) (prf P)
   ·refine aa (cm 38 (.bool false) Z (congrArg Value.bool (by rw [decide_eq_true hin];rfl)) ?_)
    refine al Z <| ao <| ba <| aa <| ab <| b5 Z (by (unfold I64;omega)) <| af Z <| ad ?_
    refine bj (k+1,W',o',A',c') ⟨rfl,rfl,rfl,rfl,rfl,rfl,rfl,rfl,rfl,trivial⟩ (ac 1 [] Z Z) ⟨h2',by dsimp only;rw [htk,yc,if_pos hin,List.append_nil];exact hW',ho'⟩ (by dsimp only;omega)
   ·refine aa (cm 38 (.bool true) Z (congrArg Value.bool (by rw [decide_eq_false hin];rfl)) ?_)
    have hnew:W++ly (prf P) x (x.e.refs.take (k+1))=W' ++ [⟨dotW x,y,x.src⟩]:=by rw [htk,yc,if_neg hin,← List.append_assoc,← hW']
    have hcap:o'+1≤60000000:=by
     have h3:=amx (prf P) hsp hrs
     rw [← hW,hnew,List.length_append,List.length_singleton] at h3
     omega
    refine aq Z <| ab <| bgj Z Z Z <| df 2 Z Z Z <| dk 0 Z Z Z Z Z Z (ig hy) Z <| af Z <| kr 2 Z Z Z Z Z Z (a20 hx32) Z ?_
    skip
    refine a2l Z Z Z ⟨rfl,(by show (u8s y).length=32;rw [bg,hy]),rfl,trivial⟩ ?_
    refine ky (cs:=wtC ⟨dotW x,y,x.src⟩) Z Z Z Z Z Z Z (yb hy) (by decide) fun gl=> ?_
    refine dx 2 Z Z Z Z Z Z Z Z Z (m:=1) (news:=wtC ⟨dotW x,y,x.src⟩) (fun w H=>(H.blk (k:=0) Z).sl (by rw [yb hy]) (by decide)) (avl _) (by omega) (fun _=>rfl) fun v2=> ?_
    refine b9 (fun w H=>(H.oat (k:=2) Z).form) ?_
    rintro ⟨A5,c5,rfl,_,_,_⟩
    refine af Z <| ad <| ba <| aa <| ab <| b5 Z (by (unfold I64;omega)) <| af Z <| ad ?_
    have e1:flC wtC W'++wtC ⟨dotW x,y,x.src⟩=flC wtC (W' ++ [⟨dotW x,y,x.src⟩]):=by simp only [mo,flC,List.append_nil]
    rw [e1]
    refine bj (k+1,W' ++ [⟨dotW x,y,x.src⟩],o'+1,A5,c5) ⟨rfl,rfl,rfl,rfl,rfl,rfl,rfl,rfl,rfl,trivial⟩ (ac 3 [2] Z Z) ⟨h2',hnew.symm,by dsimp only;rw [List.length_append,ho'];rfl⟩ (by dsimp only;omega)
  ·refine bu <| av <| ax <| au <| ba <| aa <| ab <| b5 Z (by (unfold I64;omega)) <| af Z <| ad ?_
   obtain rfl:k=x.e.refs.length:=by omega
   rw [List.take_length] at hW'
   refine bj (i+1,W',o',A',c') ⟨rfl,rfl,rfl,rfl,rfl,trivial⟩ (ac 2 [0] Z Z) ⟨h1',by dsimp only;rw [hsn];exact hW',ho'⟩ (by dsimp only;omega)
 ·refine bu <| av <| ax <| au <| aa <| bd4 <| bgi Z Z <| bd3 <| aj ?_
  obtain rfl:i=D.length:=by omega
  rw [List.take_length,← ac9,hD] at hW
  subst hW
  subst ho
  refine ai Z (.tmp Z .nil) (ac 7 [0,3,4,5,6] Z Z) ?_
  exact ⟨A,c,rfl,rfl⟩
end

def cfC (e:Pf):List Value:= [.int .i64 e.d.1,.int .i64 e.d.2,e.v]
abbrev rCn (A:Option Addr) (c n:Nat) (l:List Pf):SP:=row ja 3 (.slice A n c) n (flC cfC l)
def je (L:List Wn) (C:CL):CL:=(L.filter fun w=>agd (dotW w) C).map fun w=>(dotW w,cfm (dotW w) C)
theorem ah7 (l:List Wn) (x:Wn) (C:CL):je (l ++ [x]) C=je l C++(if agd (dotW x) C=true then [(dotW x,cfm (dotW x) C)] else []):=by
 unfold je
 rw [List.filter_append,List.map_append]
 congr 1
 by_cases h:agd (dotW x) C=true <;> simp [h]
theorem amy (L:List Wn) (C:CL):je (L.map nW) C=je L C:=by
 unfold je
 rw [List.filter_map,List.map_map]
 rfl
theorem a74 (d:Int × Int) (l:List Pf):agd d (prf l)=(qf d l).isSome:=by
 induction l with
 | nil => rfl
 | cons e l ih =>
  show (decide (e.d=d) || agd d (prf l))=_
  simp only [qf]
  split
  ·rename_i h;rw [decide_eq_true h];rfl
  ·rename_i h;rw [decide_eq_false h];exact ih
theorem a75 (a c:List Pf):pF (a++c)=pF a++pF c:=by
 induction a with
 | nil => rfl
 | cons x a ih => simp only [List.cons_append, pF, ih]
theorem ao1 {a:List Pf} {x:Pf}:(pF (a ++ [x])).Perm ([rD x.v x.ids]++pF a):=by
 rw [a75]
 exact List.perm_append_comm
section
variable {b:World} {F:List SP} {gg gq gs gp n:Nat} {V:List Int} {L:List Wn} {P:List Pf} {C:CL}
set_option maxRecDepth 20000 in
set_option maxHeartbeats 8000000 in
theorem avm (hC:CK C):SC Tryz.prog adi [.pointer (some ⟨gg,0,none⟩)] b (gat gg gq gs C::que gq n V L::F) (fun u F'=>∃ A c T,prf T=je L C∧u = .slice A T.length c∧F'=rCn A c T.length T::all (pF T)::gat gg gq gs C::que gq n V L::F):=by
 refine SC.opn ?_
 rintro ⟨gp,P⟩ hP
 refine SC.out (R:=fun u F'=>∃ A c T,prf T=je L C∧u = .slice A T.length c∧F'=rCn A c T.length T::all (pF T)::stG gg gq gs gp P (que gq n V L::F)) ?_ (by
  rintro u _ ⟨A,c,T,h1,h2,rfl⟩
  exact ⟨_,ik (ik (ib (G:=fun s:Nat × List Pf=>stG gg gq gs s.1 s.2 []) (p:=fun s=>prf s.2=C) (gp,P) hP)),A,c,T,h1,h2,rfl⟩)
 dsimp only at hP
 subst hP
 show SC _ _ _ _ (stG gg gq gs gp P (que gq n V L::F)) _
 refine bf Tryz.func18 Z Z Z <| bt (ahc (k:=3) Z) fun hq=>bd4 <| af Z <| bd3 <| ae <| bd4 <| af Z <| bh Z Z Z (ahh (F:=que gq n V L::F)) <| bd3 <| al Z <| ao <| aa <| ae <| bd4 <| bgj Z Z Z <| df 0 Z Z Z <| bq Z Z Z ((a0h (F:=stG gg gq gs gp P F)).ent (ac 4 [3,0,1,2] Z Z)) ?_
 rintro v _ ⟨D,hD,rfl⟩
 refine b9 (fun w H=>(H.oat (k:=0) Z).form) ?_
 rintro ⟨A0,c0,rfl,_,_,k3⟩
 have hDm:=hq.many
 have hDl:D.length=L.length:=by rw [← hD,List.length_map]
 have hDe:∀ x∈D,EW x.e∧j8 (dotW x)∧x.e.refs.length≤1000000:=fun x hx=>by
  have hm:nW x∈L:=by rw [← hD];exact List.mem_map.2 ⟨x,hx,rfl⟩
  exact ⟨(hq.ew _ hm).own x.e.dv x.e.rv,(show j8 (dotW (nW x)) from hq.dotOk hm),(show (nW x).e.refs.length≤_ from hq.rf _ hm)⟩
 refine bgi Z Z <| bd3 <| ar ?_
 refine b6 (S:=Nat × List Pf × Nat × Option Addr × Nat) (fun s=> [(0,.pointer (some ⟨gg,0,none⟩)),(2,.slice s.2.2.2.1 s.2.2.1 s.2.2.2.2),(13,.slice A0 D.length c0),(14,.int .i64 D.length),(15,.int .i64 (s.1:Int))])
  (fun s=>rCn s.2.2.2.1 s.2.2.2.2 s.2.2.1 s.2.1::all (pF s.2.1)::rWs (.slice A0 D.length c0) D::all (wsF D)::stG gg gq gs gp P (que gq n V L::F)) (fun s=>s.1≤D.length∧prf s.2.1=je (D.take s.1) (prf P)∧s.2.1.length=s.2.2.1∧s.2.2.1≤s.1) (fun s=>D.length - s.1) (0,[],0,none,0) ⟨rfl,rfl,rfl,rfl,rfl,trivial⟩ ?_ ⟨Nat.zero_le _,rfl,rfl,Nat.le_refl _⟩ ?_
 ·exact ((ji (G:= [])).trans (eh ja 3 Z)).trans (ac 8 [0,1,2,3,5,6,7,4] Z Z)
 rintro ⟨i,T,o,A,c⟩ ⟨hi1,hT,ho,hoi⟩
 dsimp only at hi1 hT ho hoi ⊢
 refine bd4 <| af Z <| bd3 <| ae ?_
 refine di Z (fun h1=> ?_) (fun h1=> ?_)
 ·have h1':i<D.length:=by omega
  obtain ⟨gD,oD,rfl⟩:=k3 (by omega)
  have hmem:=List.getElem_mem h1'
  have fx:=aiq (f:=waC) (fun a ha=>ec (hDe a ha).1.l32) h1'
  have hsn:je (D.take (i+1)) (prf P)=prf T++(if agd (dotW D[i]) (prf P)=true then [(dotW D[i],cfm (dotW D[i]) (prf P))] else []):=by rw [List.take_succ_eq_append_getElem h1',ah7,hT]
  generalize D[i]=x at *
  obtain ⟨hew,hdk,hrl⟩:=hDe x hmem
  have hx32:=hew.l32
  have xl:=ec (s:=x.src) hx32
  refine ao <| aa <| ae <| ar <| bd4 <| b5 Z (by omega) ?_
  refine abn 2 (i*40) Z Z Z Z Z Z Z (by rw [bi,Int.toNat_natCast]) (by omega) fx (by rw [xl];rfl) ?_
  refine b9 (fun w H=>du (pd (k:=3) Z hmem w H).rv) ?_
  rintro ⟨A1,c1,hrv,_⟩
  refine b9 (fun w H=>(pd (k:=3) Z hmem w H).dv.form) ?_
  rintro ⟨A2,c2,hdv,_⟩
  refine ek Z Z Z Z Z fun g4=> ?_
  refine im 0 Z Z Z Z Z Z Z xl (ng (by rw [hdv];rfl) (by rw [hrv];rfl)) (by rw [xl];rfl) ?_
  refine bd3 <| ae <| b7 flo (pt g4 b8 (wsC x.e x.src)::pt gg eu (gtC gq gs gp)::mpG gp P::F) (by decide +kernel) (ac 9 [0,5,6] Z Z) <| ay Z Zl <| ay Z Zl <| ay Z Zl <| de 1 Z Z Z Z <| ay Z Zl <| ay Z Zl <| de 0 Z Z Z Z ?_
  rw [a74] at hsn
  cases hf:qf (dotW x) P with
  | none =>
   have hg:ow (dotW x) (pM P)=none:=by rw [ak2,hf];rfl
   refine abk 2 uu hdk hg Z Z Z Z Z Z Z Z Z <| ay Z Zl <| ay Z Zl <| ay Z Zl <| m6 Z Z Z Z Z Z (ac 9 [0,5,6] Z Z) fun g5=> ?_
   skip
   refine qr (vs:= [.slice none 0 0]) 0 Z Z Z Z Z Z Z Z Z (by decide) Z (ac 10 [1,6,7] Z Z) <| ay Z Zl <| az ?_
   rw [hf] at hsn
   refine aa <| bd4 <| af Z <| bd3 <| al Z <| ao <| ba <| aa <| ab <| b5 Z (by (unfold I64;omega)) <| af Z <| ad ?_
   refine bj (i+1,T,o,A,c) ⟨rfl,rfl,rfl,rfl,rfl,trivial⟩ (ac 2 [] Z Z) ⟨h1',by dsimp only;rw [hsn];simp,ho,by dsimp only;omega⟩ (by dsimp only;omega)
  | some e =>
   have hg:ow (dotW x) (pM P)=some (.agg ⟨[e.v]⟩):=by rw [ak2,hf];rfl
   refine abl 2 uu hdk hg Z Z Z Z Z Z Z Z Z <| ay Z Zl <| ay Z Zl <| ay Z Zl <| m6 Z Z Z Z Z Z (ac 9 [0,5,6] Z Z) fun g5=> ?_
   skip
   have hee:=ac8 hf
   refine ie (fun w H=>by exact du (yr (k:=8) Z hee.1 w H)) ?_
   rintro ⟨A3,c3,hev,_⟩
   refine qr (vs:= [e.v]) 0 Z Z Z Z Z Z Z Z Z (by rw [hev];simp [Value.oneCell']) Z (ac 10 [1,6,7] Z Z) ?_
   refine ay Z Zl <| az ?_
   rw [hf,if_pos (show (some e).isSome=true from Z),amw,hf] at hsn
   refine aa <| bd4 <| af Z <| bd3 <| aq Z <| b7 flo (pt g5 ru [e.v]::pt g4 b8 (wsC x.e x.src)::F) (by decide +kernel) (ac 10 [0,1] Z Z) <| ay Z Zl <| ay Z Zl <| ay Z Zl <| de 1 Z Z Z Z <| ay Z Zl <| de 0 Z Z Z Z ?_
   refine dz Z Z Z Z (wi (yr (k:=8) Z hee.1) (by have:=(hC (dotW x)).2;rw [amw,hf] at this;exact this)) ?_
   rintro v6 _ rfl
   refine ⟨ac 11 [1,2] Z rfl,(ie (fun w H=>(H.oat (k:=0) Z).form) ?_)⟩
   rintro ⟨A6,c6,rfl,_,_,_⟩
   refine ay Z Zl <| n9 (cs:=cfC ⟨dotW x,e.ids,.slice A6 e.ids.length c6⟩) Z Z Z Z Z Z Z Z Z (by decide) (ac 11 [1,2] Z Z) fun gl=> ?_
   refine nz 4 Z Z Z Z Z Z Z Z Z Z (m:=1) (news:=cfC ⟨dotW x,e.ids,.slice A6 e.ids.length c6⟩) (fun w H=>(H.blk (k:=0) Z).sl Z (by decide)) (by simp [cfC,Value.oneCell']) (by omega) (fun _=>rfl) (fun _=>ac 12 [2,3] Z Z) fun v7=> ?_
   refine ie (fun w H=>(H.oat (k:=4) Z).form) ?_
   rintro ⟨A7,c7,rfl,_,_,_⟩
   refine ay Z Zl <| az <| ba <| aa <| ab <| b5 Z (by (unfold I64;omega)) <| af Z <| ad ?_
   have e1:flC cfC T++cfC ⟨dotW x,e.ids,.slice A6 e.ids.length c6⟩=flC cfC (T ++ [⟨dotW x,e.ids,.slice A6 e.ids.length c6⟩]):=by simp only [mo,flC,List.append_nil]
   rw [e1]
   refine lv (G:= [rD (.slice A6 e.ids.length c6) e.ids]++(all (pF T)::rCn A7 c7 (o+1) (T ++ [⟨dotW x,e.ids,.slice A6 e.ids.length c6⟩])::rWs (.slice (some ⟨gD,oD,none⟩) D.length c0) D::all (wsF D)::stG gg gq gs gp P (que gq n V L::F))) (ac 6 [1,5,4] Z Z) <| lv (ql (A:=pF (T ++ [⟨dotW x,e.ids,.slice A6 e.ids.length c6⟩])) ao1) ?_
   refine bj (i+1,T ++ [⟨dotW x,e.ids,.slice A6 e.ids.length c6⟩],o+1,A7,c7) ⟨rfl,rfl,rfl,rfl,rfl,trivial⟩ (ac 2 [1,0] Z Z) ⟨h1',by dsimp only;rw [hsn,prf,List.map_append];rfl,by dsimp only;rw [List.length_append,ho];rfl,by dsimp only;omega⟩ (by dsimp only;omega)
 ·refine bu <| av <| ax <| au <| aa <| bd4 <| bgi Z Z <| bd3 <| aj ?_
  obtain rfl:i=D.length:=by omega
  rw [List.take_length,← amy,hD] at hT
  subst ho
  refine ai Z (.tmp Z .nil) (ac 8 [0,1,4,5,6,7] Z Z) ?_
  exact ⟨A,c,T,hT,rfl,rfl⟩
end

def aly (d:Int × Int):List Pf→List Pf
 | [] => []
 | e :: l => if e.d = d then l else e :: aly d l
theorem a76 (d:Int × Int) (l:List Pf):aa4 d (pM l)=pM (aly d l):=by
 induction l with
 | nil => rfl
 | cons e l ih =>
  simp only [pM,aa4,aly]
  split
  ·rfl
  ·simp only [pM,ih]
theorem a00 (d:Int × Int) (l:List Pf):zt d (prf l)=prf (aly d l):=by
 induction l with
 | nil => rfl
 | cons e l ih =>
  show (if e.d=d then prf l else (e.d,e.ids)::zt d (prf l))=_
  simp only [aly]
  split
  ·rfl
  ·rw [ih];rfl
theorem a77 (d:Int × Int) (l:List Pf):∃ B,(pF l).Perm (B++pF (aly d l)):=by
 induction l with
 | nil => exact ⟨[], .refl _⟩
 | cons e l ih =>
  simp only [aly]
  split
  ·exact ⟨[rD e.v e.ids],.refl _⟩
  ·obtain ⟨B,hB⟩:=ih
   exact ⟨B,(hB.cons (rD e.v e.ids)).trans List.perm_middle.symm⟩
theorem a01 (d:Int × Int) (l:List Pf) {F:List SP}:Ent (all (pF l)::F) (all (pF (aly d l))::F):=by
 obtain ⟨B,hB⟩:=a77 d l
 exact (tz hB).trans (ap6 B)
theorem zu {n:Nat} {V:List Int} {L:List Wn} (hq:QI n V L) {d:Int × Int} (h:d∈gn V L):∃ x,jc d L=some x∧qb x.e.deps V=true∧dotW x=d:=by
 unfold gn at h
 obtain ⟨w,hw,rfl⟩:=List.mem_map.1 h
 obtain ⟨h1,h2⟩:=List.mem_filter.1 hw
 exact ⟨w,r6 hq.nd h1 rfl,h2,rfl⟩
def ak4 (d:Int × Int) (L:List Wn):Ev:=match jc d L with
 | some x => nE x.e
 | none => nE ev0
def dlv:Nat→List Int→List Wn→CL→List Ev × List Int × List Wn × CL
 | 0, V, L, C => ([], V, L, C)
 | k + 1, V, L, C => match gz V L C with
  | [] => ([], V, L, C)
  | d :: _ => let r := dlv k (me V d.1 d.2) (pv d L) (zt d C); (ak4 d L :: r.1, r.2)
def pw (V:List Int) (L:List Wn) (C:CL):List Ev × List Int × List Wn × CL:=dlv L.length V L C
theorem zv {V:List Int} {L:List Wn} {C:CL} (h:gz V L C = []) (k:Nat):dlv k V L C=([],V,L,C):=by
 cases k with
 | zero => rfl
 | succ k => simp only [dlv, h]
theorem ahi {V:List Int} {L:List Wn} {C:CL} {d:Int × Int} {l:List (Int × Int)} (h:gz V L C=d::l) (k:Nat):dlv (k+1) V L C=(ak4 d L::(dlv k (me V d.1 d.2) (pv d L) (zt d C)).1,(dlv k (me V d.1 d.2) (pv d L) (zt d C)).2):=by
 simp only [dlv,h]
theorem ao2 {d:Int × Int} {L:List Wn} {x:Wn} (h:jc d L=some x):(pv d L).length<L.length:=by
 obtain ⟨h1,h2⟩:=fg h
 unfold pv
 rw [List.length_filter_lt_length_iff_exists]
 exact ⟨x,h1,by simp [h2]⟩
theorem atw {V:List Int} {L:List Wn} {C:CL} {A T:List (Int × Int)} {d:Int × Int} (h:gn V L=A++d::T) (hA:∀ e∈A,pg L C e=false) (hd:pg L C d=true):gz V L C=d::T.filter (pg L C):=by
 unfold gz
 rw [h,List.filter_append,List.filter_cons,if_pos hd,List.filter_eq_nil_iff.2 (fun e he=>by rw [hA e he];decide)];rfl
theorem amz {V:List Int} {L:List Wn} {C:CL} (h:∀ e∈gn V L,pg L C e=false):gz V L C = []:=by
 unfold gz
 exact List.filter_eq_nil_iff.2 (fun e he=>by rw [h e he];decide)

structure Dst where
 D:List Ev
 V:List Int
 L:List Wn
 P:List Pf
 k:Nat
 o:Nat
 A:Option Addr
 c:Nat
section
variable {b:World} {F:List SP} {gg gq gs gp n:Nat} {V:List Int} {L:List Wn} {P:List Pf} {C:CL}
set_option maxRecDepth 20000 in
set_option maxHeartbeats 8000000 in
theorem am0:SC Tryz.prog sp [.pointer (some ⟨gg,0,none⟩)] b (gat gg gq gs C::que gq n V L::F) (fun u F'=>∃ A c D,D.map nE=(pw V L C).1∧u = .slice A D.length c∧F'=rEn A c D.length D::all (evF D)::gat gg gq gs (pw V L C).2.2.2::que gq n (pw V L C).2.1 (pw V L C).2.2.1::F):=by
 refine SC.opn ?_
 rintro ⟨gp,P⟩ hP
 refine SC.out (R:=fun u F'=>∃ A c D P',D.map nE=(pw V L C).1∧prf P'=(pw V L C).2.2.2∧u = .slice A D.length c∧F'=rEn A c D.length D::all (evF D)::stG gg gq gs gp P' (que gq n (pw V L C).2.1 (pw V L C).2.2.1::F)) ?_ (by
  rintro u _ ⟨A,c,D,P',h1,h2,h3,rfl⟩
  exact ⟨_,ik (ik (ib (G:=fun s:Nat × List Pf=>stG gg gq gs s.1 s.2 []) (p:=fun s=>prf s.2=(pw V L C).2.2.2) (gp,P') h2)),A,c,D,h1,h3,rfl⟩)
 dsimp only at hP
 subst hP
 show SC _ _ _ _ (stG gg gq gs gp P (que gq n V L::F)) _
 refine bf Tryz.func17 Z Z Z <| bt (ahc (k:=3) Z) fun hq=>bd4 <| af Z <| bd3 <| ae <| bd4 <| af Z <| bh Z Z Z (ahh (F:=que gq n V L::F)) <| bd3 <| al Z <| ao <| aa <| ar ?_
 refine b6 (S:=Dst) (fun s=> [(0,.pointer (some ⟨gg,0,none⟩)),(2,.slice s.A s.o s.c)])
  (fun s=>rEn s.A s.c s.o s.D::all (evF s.D)::stG gg gq gs gp s.P (que gq n s.V s.L::F)) (fun s=>s.L.length≤s.k∧s.D.length=s.o∧s.o+s.L.length≤L.length∧QI n s.V s.L∧s.D.map nE++(dlv s.k s.V s.L (prf s.P)).1=(pw V L (prf P)).1∧(dlv s.k s.V s.L (prf s.P)).2=(pw V L (prf P)).2) (fun s=>s.L.length) ⟨[],V,L,P,L.length,0,none,0⟩ ⟨rfl,rfl,trivial⟩ ?_ ⟨Nat.le_refl _,rfl,by dsimp only;omega,hq,rfl,rfl⟩ ?_
 ·exact (ji (G:= [])).trans (eh bo 39 Z)
 rintro ⟨D,V1,L1,P1,k,o,A,c⟩ ⟨hk,ho,hoL,hq1,hD1,hD2⟩
 dsimp only at hk ho hoL hq1 hD1 hD2 ⊢
 refine ar <| bd4 <| bgj Z Z Z <| df 2 Z Z Z <| bq Z Z Z ((a0g (gq:=gq) (n:=n) (V:=V1) (L:=L1) (F:=rEn A c o D::all (evF D)::stG gg gq gs gp P1 F)).ent (ac 6 [5,0,1,2,3,4] Z Z)) ?_
 rintro _ _ ⟨A0,c0,rfl,rfl⟩
 have hrl:(gn V1 L1).length≤100000:=by
  have h1:(gn V1 L1).length≤L1.length:=by unfold gn;rw [List.length_map];exact List.length_filter_le _ _
  have:=hq1.many;omega
 refine af Z <| a8r <| bgj Z Z Z ?_
 refine bq Z Z Z ((ak3 (f:=vg) (pre:= [.pointer (some ⟨gg,0,none⟩)]) (post:= []) (p:=fun d=>pg L1 (prf P1) d) (D:=gn V1 L1) (F:=stG gg gq gs gp P1 (que gq n V1 L1::rEn A c o D::all (evF D)::F)) (fun d hd B=>by
  refine scB ?_
  exact avk (F:=rEn A c o D::all (evF D)::F++B) (ac7 hq1 hd)) hrl).ent (ac 7 [0,4,5,6,1,2,3] Z Z)) ?_
 rintro _ _ ⟨⟨Pr,T,hPT,hPr,hT,rfl⟩,rfl⟩
 cases T with
 | nil =>
  rw [if_pos rfl]
  rw [List.append_nil] at hPT
  have hrd:=amz (C:=prf P1) (fun e he=>hPr e (hPT▸he))
  rw [zv hrd k] at hD1 hD2
  rw [List.append_nil] at hD1
  refine af Z <| bd3 <| ae <| bd4 <| bgi Z Z <| bd3 <| aq Z <| bd4 <| bgi Z Z <| bd3 <| aj <| ag <| ap <| da <| ap ?_
  subst ho
  refine ai Z (.tmp Z .nil) (ac 7 [5,6,1,2,3,4] Z Z) ?_
  rw [← hD2]
  exact ⟨A,c,D,P1,hD1,rfl,rfl,rfl⟩
 | cons d T =>
 rw [if_neg (by simp)]
 have hd:=hT d T Z
 have hrd:=atw (C:=prf P1) hPT hPr hd
 have hdm:d∈gn V1 L1:=by rw [hPT];simp
 have hdk:=ac7 hq1 hdm
 obtain ⟨x,hfx,hlx,hxd⟩:=zu hq1 hdm
 have hlt:=ao2 hfx
 obtain ⟨k',rfl⟩:∃ k',k=k'+1:=⟨k - 1,by omega⟩
 rw [ahi hrd k'] at hD1 hD2
 have hat:(gn V1 L1)[Pr.length]? = some d:=by rw [hPT];simp
 have hatl:Pr.length<(gn V1 L1).length:=by rw [hPT,List.length_append,List.length_cons];omega
 have fx:=age hat
 refine b9 (fun w H=>(H.oat (k:=0) Z).form) ?_
 rintro ⟨A',c',hv,_,_,q3⟩
 cases hv
 obtain ⟨gR,oR,rfl⟩:=q3 (by omega)
 refine af Z <| bd3 <| ae <| bd4 <| bgi Z Z <| bd3 <| al Z <| ao <| aa <| ae ?_
 have hdE:zn V1 L1 d=0:=by rw [zn,hfx];exact if_pos hlx
 have hsw:=hq1.del (fg hfx).1 hlx
 rw [hxd] at hsw
 have hxe:(x.e.r,x.e.n)=d:=hxd
 have hx1:x.e.r=d.1:=congrArg Prod.fst hxe
 have hx2:x.e.n=d.2:=congrArg Prod.snd hxe
 rw [hx1,hx2] at hsw
 have hDel:∀ {A0:List SP},SC Tryz.prog m7 [.pointer (some ⟨gq,0,none⟩),ry d] b (que gq n V1 L1::A0) (fun u F'=>∃ w,nW w=x∧u = .tuple ⟨[evV w.e,.int .i64 0]⟩∧F'=rZ w.e.dv w.e.deps::rD w.e.rv w.e.refs::que gq n (me V1 d.1 d.2) (pv d L1)::A0):=fun {A0}=>(axa hdk).mono fun u F' h=>by
  rcases h with ⟨h1,_⟩ | ⟨x',w,h1,_,h3,h4,h5⟩
  ·exact absurd hdE h1
  ·rw [hfx] at h1;cases h1;exact ⟨w,h3,h4,h5⟩
 have hew:∀ w:Wn,nW w=x→w.e.id.length=32∧nE w.e=nE x.e:=fun w hw=>by
  have h1:=(hq1.ew x (fg hfx).1).l32
  rw [← hw] at h1
  exact ⟨h1,by rw [← hw];rfl⟩
 refine wv (S':=Nat × Wn) flo 12 0 0 [0,1,2,3,4,5,6,7,8,9,10,11] (OT.pre [13,14] .nil) (rO (some ⟨gR,oR,none⟩) c0 (gn V1 L1).length (gn V1 L1)::pt gg eu (gtC gq gs gp)::F) Z (by decide +kernel) Z (ac 7 [0,1] Z Z) (fun q=> [(0,.pointer (some ⟨gg,0,none⟩)),(2,.slice A o c),(3,.slice (some ⟨gR,oR,none⟩) (gn V1 L1).length c0),(4,.int .i64 Pr.length),(5,.pointer (some ⟨q.1,0,none⟩)),(31,evV q.2.e),(32,.int .i64 0)])
  (fun q=>pt q.1 bo (evC ev0)::rZ q.2.e.dv q.2.e.deps::rD q.2.e.rv q.2.e.refs::rO (some ⟨gR,oR,none⟩) c0 (gn V1 L1).length (gn V1 L1)::stG gg gq gs gp P1 (que gq n (me V1 d.1 d.2) (pv d L1)::rEn A c o D::all (evF D)::F)) (fun q=>nW q.2=x) (fun q _=>ac 10 [3,4] Z Z) ?_ (fun J=> ?_)
 ·rintro ⟨g5,w⟩ hw
  dsimp only at hw ⊢
  obtain ⟨hw32,hwn⟩:=hew w hw
  have wl:=cu hw32
  refine mg 13 2 .nil Z Z <| ie (ux (e:=w.e) (i:=1) (j:=2) Z Z) fun hone=> ?_
  refine qr (vs:=evC w.e) 0 Z Z Z Z Z Z Z Z wl (kj hone.1 hone.2) (by rw [wl];rfl) (ac 10 [3,4] Z Z) ?_
  refine ay Z Zl <| az <| vp <| aa <| ae <| b7 flo (rO (some ⟨gR,oR,none⟩) c0 (gn V1 L1).length (gn V1 L1)::pt gg eu (gtC gq gs gp)::F) (by decide +kernel) (ac 10 [3,4] Z Z) <| ay Z Zl <| ay Z Zl <| ay Z Zl <| de 1 Z Z Z Z <| ay Z Zl <| ay Z Zl <| dj Z Z (by omega) ?_
  refine ri 0 (Pr.length*2) Z Z Z Z Z Z Z Z (by rw [bi,Int.toNat_natCast]) (by omega) fx Z ?_
  refine ayf 5 uu hdk Z Z Z Z Z Z Z Z (ac 10 [3,4] Z Z) <| az ?_
  rw [a76]
  refine aa <| ab <| af Z ?_
  refine dk 0 Z Z Z Z Z Z (fd (by rw [wl];rfl)) Z ?_
  refine ky Z Z Z Z Z Z Z wl (by decide) fun gl=> ?_
  refine dx 9 Z Z Z Z Z Z Z Z Z (m:=1) (news:=evC w.e) (fun w' H=>(H.blk (k:=0) Z).sl (by rw [wl]) (by decide)) (kj hone.1 hone.2) (by have:=hq.many;omega) (fun _=>rfl) fun v7=> ?_
  refine b9 (fun w H=>(H.oat (k:=9) Z).form) ?_
  rintro ⟨A7,c7,rfl,_,_,_⟩
  refine af Z <| ad <| ba ?_
  have e1:ag9 D++evC w.e=ag9 (D ++ [w.e]):=by simp only [mo,flC,List.append_nil]
  rw [e1]
  refine lv (G:=evP w.e++(all (evF D)::rEn A7 c7 (o+1) (D ++ [w.e])::pt gg eu (gtC gq gs gp)::mpG gp (aly d P1)::all (pF P1)::que gq n (me V1 d.1 d.2) (pv d L1)::F)) (ac 11 [2,3,10,9,5,6,7,8] Z Z) <| lv (ql (A:=evF (D ++ [w.e])) aq1) <| lv (ac 5 [4,0,1,2,3] Z Z) <| lv (a01 d P1) ?_
  have hev:ak4 d L1=nE w.e:=by rw [ak4,hfx,hwn]
  refine bj ⟨D ++ [w.e],me V1 d.1 d.2,pv d L1,aly d P1,k',o+1,A7,c7⟩ ⟨rfl,rfl,trivial⟩ (ac 6 [2,1,3,4,0,5] Z Z) ⟨by dsimp only;omega,by dsimp only;rw [List.length_append,ho];rfl,by dsimp only;omega,hsw,by dsimp only;rw [← a00,List.map_append,List.append_assoc,← hD1,hev];rfl,by dsimp only;rw [← a00];exact hD2⟩ hlt
 ·refine az <| ma 0 8 (R2:= [8,9,10,11]) Z Z (by decide +kernel) Z (ac 7 [0,1] Z Z) <| ay Z Zl <| ay Z Zl <| ay Z Zl <| de 1 Z Z Z Z <| ay Z Zl <| ay Z Zl <| dj Z Z (by omega) ?_
  refine ri 0 (Pr.length*2) Z Z Z Z Z Z Z Z (by rw [bi,Int.toNat_natCast]) (by omega) fx Z ?_
  skip
  refine az ?_
  refine uh (R2:= [9,10,11]) Z (by decide +kernel) Z Z (ac 7 [0,1] Z Z) ?_ ?_
  ·refine m6 Z Z Z Z Z Z (ac 7 [0,1] Z Z) fun g5=>az <| aht 8 4 Z Z (ac 8 [1,2] Z Z) <| dz Z Z Z Z ((hDel (A0:=pt g5 bo (evC ev0)::rO (some ⟨gR,oR,none⟩) c0 (gn V1 L1).length (gn V1 L1)::stG gg gq gs gp P1 (rEn A c o D::all (evF D)::F))).ent (ac 8 [5,0,1,2,3,4,6,7] Z Z)) ?_
   rintro _ _ ⟨w,hw,rfl,rfl⟩
   refine ⟨ac 10 [4,5] Z rfl,(ay Z Zl <| ay Z Zl <| ay Z Zl <| az ?_)⟩
   exact J (g5,w) _ _ hw ⟨rfl,rfl,rfl,rfl,rfl,rfl,rfl,trivial⟩ (ac 10 [3,0,1,4,5,6,7,2,8,9] Z Z)
  ·refine dz Z Z Z Z ((hDel (A0:=rO (some ⟨gR,oR,none⟩) c0 (gn V1 L1).length (gn V1 L1)::stG gg gq gs gp P1 (rEn A c o D::all (evF D)::F))).ent (ac 7 [4,0,1,2,3,5,6] Z Z)) ?_
   rintro _ _ ⟨w,hw,rfl,rfl⟩
   refine ⟨ac 9 [3,4] Z rfl,(az <| ma 9 3 (R2:= []) Z Z (by decide +kernel) Z (ac 9 [3,4] Z Z) <| ay Z Zl <| ay Z Zl <| ay Z Zl <| az <| ww Z (by decide +kernel) Z (ac 9 [3,4] Z Z) <| m6 Z Z Z Z Z Z (ac 9 [3,4] Z Z) fun g5=>az ?_)⟩
   exact J (g5,w) _ _ hw ⟨rfl,rfl,rfl,rfl,rfl,rfl,rfl,trivial⟩ (ac 10 [0,1,2,4,5,6,7,3,8,9] Z Z)
end

theorem yd:∀ x y:List UInt8,Lib.compareBytes x y = -Lib.compareBytes y x
 | [], [] => rfl
 | [], _ :: _ => rfl
 | _ :: _, [] => rfl
 | a :: x, b :: y => by
  have ih:=yd x y
  simp only [Lib.compareBytes,UInt8.lt_iff_toNat_lt]
  repeat' split
  all_goals omega
theorem zw {x y:List Int} (hx:ii x) (hy:ii y):jd x y=0↔x=y:=by
 constructor
 ·intro h
  refine aou hx hy (aiv _ _ ?_ ?_)
  ·unfold jd at h;omega
  ·rw [yd];unfold jd at h;omega
 ·rintro rfl
  have:=yd (u8l x) (u8l x)
  unfold jd;omega
theorem ae4 {x y z:List Int} (hx:ii x) (hz:ii z) (h1:jd x y<0) (h2:jd y z<0):jd x z<0 :=
 arh hx hz (q7 (ae2 h1) (ae2 h2)) (by rintro rfl;exact zo _ _ h1 h2)
def ahj (l:List (List Int)):Prop:=l.Pairwise fun a c=>jd a c<0
theorem a78 {i j:Nat} (h:i+j≤4000000):IntKind.i64.wrap ((IntKind.u64.wrap ((i:Int)+(j:Int))).fdiv (2 ^ min (Int.toNat 1) IntKind.u64.bits))=(((i+j) / 2:Nat):Int):=by
 have h1:IntKind.u64.wrap ((i:Int)+(j:Int))=(i:Int)+(j:Int):=by
  have:IntKind.u64.wrap ((i:Int)+(j:Int))=((i:Int)+(j:Int)) % 18446744073709551616:=rfl
  rw [this];omega
 rw [h1,show (2:Int) ^ min (Int.toNat 1) IntKind.u64.bits=2 from rfl,I64.wrap (by rw [Int.fdiv_eq_ediv_of_nonneg _ (by omega)];unfold I64;omega),Int.fdiv_eq_ediv_of_nonneg _ (by omega)]
 omega
abbrev a33:Value:= .func (.func ad6) ⟨[]⟩ ⟨[]⟩
section
variable {b:World} {F:List SP} {va:Value} {l:List (List Int)} {x:List Int}
set_option maxRecDepth 20000 in
set_option maxHeartbeats 4000000 in
theorem aro (ha:∀ w,Sat b F w→SL w 32 va l.length (et l)) (hl:∀ a∈l,idOk a) (hx:idOk x) (hm:l.length≤1000000) (hs:ahj l) :
  SC Tryz.prog ls [va,idV x,a33] b F (fun v F'=>(∃ l1 l2,l=l1++l2∧(∀ a∈l1,jd a x<0)∧(∀ a∈l2,¬ jd a x<0)∧v = .tuple ⟨[.int .i64 l1.length,.bool (decide (x∈l))]⟩)∧F'=F):=by
 have hl32:fw l:=fun a h=>(hl a h).1
 refine bf Tryz.func71 Z Z Z <| bt (fun w H=>du (ha w H)) ?_
 rintro ⟨A,c,rfl,h1,h2,h3,h4,_⟩
 refine bd4 <| cq Z Z Z Z Z fun g4=>bgi Z Z <| a8r <| bgj Z Z Z <| a8r <| bgj Z Z Z <| bd3 <| ae <| ar ?_
 refine b6 (S:=Nat × Nat) (fun s=> [(0,.slice A l.length c),(4,.pointer (some ⟨g4,0,none⟩)),(2,a33),(8,.int .i64 l.length),(9,.int .i64 s.1),(10,.int .i64 s.2)]) (fun _=>pt g4 t_api_ID (u8s x)::F)
  (fun s=>s.1≤s.2∧s.2≤l.length∧(∀ a∈l.take s.1,jd a x<0)∧(∀ a∈l.drop s.2,¬ jd a x<0)) (fun s=>s.2 - s.1) (0,l.length) ⟨rfl,rfl,rfl,rfl,rfl,rfl,trivial⟩ (Ent.refl _)
  ⟨Nat.zero_le _,Nat.le_refl _,fun a h=>by simp at h,fun a h=>by simp at h⟩ ?_
 rintro ⟨i,j⟩ ⟨hij,hjn,hlo,hhi⟩
 dsimp only at hij hjn hlo hhi ⊢
 refine ae <| bd4 <| bgj Z Z Z <| bd3 ?_
 refine di Z (fun g1=> ?_) (fun g1=> ?_)
 ·refine ao <| aa <| ar <| bd4 <| bgi Z Z <| b5 Z (by (unfold I64;omega)) <| af Z <| b5 Z (by omega) <| bgi Z Z <| bd3 <| ae ?_
  rw [a78 (by omega)]
  obtain ⟨m,hm⟩:∃ m,m=(i+j) / 2:=⟨_,rfl⟩
  rw [← hm]
  have hmn:m<l.length:=by omega
  obtain ⟨gA,oA,rfl⟩:=h4 (by omega)
  have ca:=jt ha hl32 hmn
  have hy:=hl32 _ (List.getElem_mem hmn)
  obtain ⟨y,hyl⟩:∃ y,y=l[m]:=⟨_,rfl⟩
  rw [← hyl] at ca hy
  skip
  refine b7 flo _ (by decide +kernel) (Ent.refl _) <| ay Z Zl <| ay Z Zl <| ay Z Zl <| dj Z Z (by omega) ?_
  refine fu Z (fun w H=>cn (cs:=u8s y) Z Z Z (by rw [bg,hy];rfl) (fun j hj=>by rw [bi,Int.toNat_natCast];exact ca w (H.ent (ac 1 [] Z Z)) j (by rw [bg,hy] at hj;exact hj))) Z Z ?_
  refine jm 0 Z Z Z Z Z Z (ig hx.1) Z Z <| cz Z Z Z Z (zg hy hx.1) (Ent.refl _) <| ay Z Zl <| az <| aa ?_
  rw [hyl]
  refine di Z (fun g2=> ?_) (fun g2=> ?_)
  ·refine ab <| af Z <| b5 Z (by (unfold I64;omega)) <| af Z <| ad <| ba ?_
   refine bj (m+1,j) ⟨rfl,rfl,rfl,rfl,rfl,rfl,trivial⟩ (Ent.refl _) ⟨by dsimp only;omega,hjn,fun a ha'=> ?_,hhi⟩ (by dsimp only;omega)
   obtain ⟨q,hq1,hq2⟩:=List.mem_take_iff_getElem.1 ha'
   dsimp only at hq1
   subst hq2
   rcases Nat.lt_or_ge q m with hqm | hqm
   ·exact ae4 (il (hl _ (List.getElem_mem _))) (il hx) (List.pairwise_iff_getElem.1 hs q m (by omega) hmn hqm) g2
   ·have:q=m:=by omega
    subst this;exact g2
  ·refine ab <| bgi Z Z <| ad <| ba ?_
   refine bj (i,m) ⟨rfl,rfl,rfl,rfl,rfl,rfl,trivial⟩ (Ent.refl _) ⟨by dsimp only;omega,by dsimp only;omega,hlo,fun a ha'=> ?_⟩ (by dsimp only;omega)
   obtain ⟨q,hq1,hq2⟩:=List.mem_drop_iff_getElem.1 ha'
   dsimp only at hq1 hq2
   subst hq2
   rcases Nat.eq_zero_or_pos q with hq0 | hq0
   ·subst hq0;exact g2
   ·exact q7 (x:=x) (y:=l[m]) g2 (ae2 (List.pairwise_iff_getElem.1 hs m (m+q) hmn (by omega) (by omega)))
 ·have hji:j=i:=by omega
  subst hji
  have hlen:(l.take j).length=j:=by rw [List.length_take];omega
  refine bu <| av <| ax <| au <| aa <| ae <| b7 flo _ (by decide +kernel) (Ent.refl _) ?_
  (iterate 5 refine ay Z Zl ?_)
  by_cases hin:j<l.length
  ·obtain ⟨gA,oA,rfl⟩:=h4 (by omega)
   have ca:=jt ha hl32 hin
   have hy:=hl32 _ (List.getElem_mem hin)
   obtain ⟨y,hyl⟩:∃ y,y=l[j]:=⟨_,rfl⟩
   rw [← hyl] at ca hy
   have hd:l.drop j=l[j]::l.drop (j+1):=List.drop_eq_getElem_cons hin
   refine b4 39 (.bool true) Z (congrArg Value.bool (decide_eq_true (by omega))) <| ay Z Zl <| ay Z Zl <| ay Z Zl <| dj Z Z (by omega) ?_
   refine fu Z (fun w H=>cn (cs:=u8s y) Z Z Z (by rw [bg,hy];rfl) (fun k hk=>by rw [bi,Int.toNat_natCast];exact ca w (H.ent (ac 1 [] Z Z)) k (by rw [bg,hy] at hk;exact hk))) Z Z ?_
   refine jm 0 Z Z Z Z Z Z (ig hx.1) Z Z <| cz Z Z Z Z (zg hy hx.1) (Ent.refl _) <| ay Z Zl <| ay Z Zl <| ay Z Zl <| ay Z Zl <| az <| aa <| aj <| ai Z (.tmp Z (.tmp Z .nil)) (ac 1 [] Z Z) <| ⟨⟨l.take j,l.drop j,(List.take_append_drop j l).symm,hlo,hhi,?_⟩,rfl⟩
   rw [hlen]
   refine congrArg (fun q=>Value.tuple ⟨[.int .i64 (j:Int),.bool q]⟩) <| decide_eq_decide.2 ?_
   rw [hyl,zw (il (hl _ (List.getElem_mem hin))) (il hx)]
   constructor
   ·intro h;rw [← h];exact List.getElem_mem hin
   ·intro h
    rw [← List.take_append_drop j l] at h
    rcases List.mem_append.1 h with h | h
    ·have h3:=hlo x h
     have:=(zw (il hx) (il hx)).2 Z
     omega
    ·rw [hd] at h
     rcases List.mem_cons.1 h with h | h
     ·exact h.symm
     ·exfalso
      obtain ⟨q,hq1,hq2⟩:=List.mem_drop_iff_getElem.1 h
      have h3:=List.pairwise_iff_getElem.1 hs j (j+1+q) hin (by omega) (by omega)
      rw [hq2] at h3
      exact hhi l[j] (by rw [hd];exact List.mem_cons_self) h3
  ·refine b4 39 (.bool false) Z (congrArg Value.bool (decide_eq_false (by omega))) ?_
   (iterate 6 refine ay Z Zl ?_)
   refine ay Z (.inr Z) <| ay Z Zl <| ay Z Zl <| ay Z Zl <| ay Z Zl <| az <| aa <| aj <| ai Z (.tmp Z (.tmp Z .nil)) (ac 1 [] Z Z) <| ⟨⟨l.take j,l.drop j,(List.take_append_drop j l).symm,hlo,hhi,?_⟩,rfl⟩
   rw [hlen]
   refine congrArg (fun q=>Value.tuple ⟨[.int .i64 (j:Int),.bool q]⟩) (decide_eq_false fun h=> ?_).symm
   rw [List.take_of_length_le (by omega)] at hlo
   have h3:=hlo x h
   have:=(zw (il hx) (il hx)).2 Z
   omega
end

theorem aiw (a z X:List Value):spl (a++z) a.length X=a++X++z.drop X.length:=by
 unfold spl
 rw [List.take_left' rfl,List.append_assoc]
 congr 2
 rw [← List.drop_drop,List.drop_left' rfl]
theorem tu (a c:List (List Int)):et (a++c)=et a++et c:=by rw [oj,oj,oj,mo]
theorem am1 (x:List Int) (c:List (List Int)):et (x::c)=u8s x++et c:=by rw [oj,oj];rfl
theorem am2 (l:List (List Int)):∀ u∈et l,u.oneCell'=true:=by
 rw [oj]
 exact anu fun x _=>dt x
section
variable {b:World} {F:List SP} {l1 l2:List (List Int)} {x:List Int} {gl c:Nat} {A:Option Addr}
set_option maxRecDepth 20000 in
set_option maxHeartbeats 4000000 in
theorem a02 (h1:fw l1) (h2:fw l2) (hx:x.length=32) (hm:(l1++l2).length≤1000000) :
  SC Tryz.prog rp [.slice A (l1++l2).length c,.int .i64 l1.length,.slice (some ⟨gl,0,none⟩) 1 1] b (rD (.slice A (l1++l2).length c) (l1++l2)::pt gl t_api_ID (u8s x)::F) (fun v F'=>F'=rD v (l1++x::l2)::F):=by
 have xl:(u8s x).length=32:=by rw [bg,hx]
 have hl1:(et l1).length=l1.length*32:=by rw [oj];exact vo fun y hy=>by rw [bg,h1 y hy]
 have hl2:(et l2).length=l2.length*32:=by rw [oj];exact vo fun y hy=>by rw [bg,h2 y hy]
 have hn:(l1++l2).length=l1.length+l2.length:=List.length_append
 have hfin:et (l1++x::l2)=et l1++u8s x++et l2:=by rw [tu,am1,List.append_assoc]
 have hfl:(l1++x::l2).length=l1.length+l2.length+1:=by rw [List.length_append,List.length_cons];omega
 refine bf Tryz.func73 Z Z Z <| bt (fun w H=>(H.oat (k:=0) Z).form) ?_
 rintro ⟨A',c',hv,q1,q2,q3⟩
 cases hv
 refine bd4 <| af Z <| a8r <| bgi Z Z <| b5 Z (by omega) <| a8r <| bgj Z Z Z <| bd3 <| ae <| bd4 <| bgi Z Z <| bd3 <| al Z <| ao <| aa <| bd4 <| bgj Z Z Z <| bd3 <| ae <| bd4 <| bgj Z Z Z <| bd3 ?_
 by_cases he:l2 = []
 ·subst he
  rw [List.append_nil] at *
  refine cm 22 (.bool true) Z (congrArg Value.bool (decide_eq_true Z)) <| aq Z <| bd4 <| bgi Z Z ?_
  refine dx 0 Z Z Z Z Z Z Z Z Z (m:=1) (news:=u8s x) (fun w H=>(H.blk (k:=1) Z).sl (by rw [xl]) (by decide)) (dt x) (by omega) (fun _=>rfl) fun v2=> ?_
  refine af Z <| bd3 <| aj <| ag ?_
  have e1:et l1++u8s x=et (l1 ++ [x]):=by rw [tu,am1];simp [et]
  have e2:l1.length+1=(l1 ++ [x]).length:=by simp
  rw [e1,e2]
  refine ai Z (.tmp Z .nil) (ac 2 [0] Z Z) ?_
  rfl
 have hl20:0<l2.length:=List.length_pos_iff.2 he
 refine cm 22 (.bool false) Z (congrArg Value.bool (decide_eq_false (by omega))) <| al Z <| ao <| aa <| ae <| bd4 <| bgi Z Z <| b5 Z (by (unfold I64;omega)) <| bgj Z Z Z <| bd3 ?_
 have hpre:(et (l1++l2)).take (l1.length*32)=et l1:=by rw [tu,← hl1,List.take_left' rfl]
 have hpost:(et (l1++l2)).drop (l1.length*32)=et l2:=by rw [tu,← hl1,List.drop_left' rfl]
 obtain ⟨gA,oA,rfl⟩:=q3 (by omega)
 by_cases hc:c<(l1++l2).length+1
 ·refine cm 31 (.bool true) Z (congrArg Value.bool (decide_eq_true (by omega))) <| aq Z <| bd4 <| bgi Z Z <| b5 Z (by omega) <| bgi Z Z <| b5 Z (by (unfold I64;omega)) <| af Z <| b5 Z (by (unfold I64;omega)) ?_
  refine a9 34 (.slice (some ⟨gA,oA,none⟩) l1.length c) Z (by simp) ?_
  refine a9 39 (.int .i64 ((l2.length+1:Nat):Int)) Z (by congr 1;omega) ?_
  refine ay0 (cs:=et l1) (j:=l1.length) (m:=l2.length+1) (c:=c) Z Z Z Z Z Z Z Z Z (fun w H=>by have:=((H.oat (k:=0) Z).take (k:=l1.length) (by omega)).sl;rwa [hpre] at this) (by omega) (by omega) (by omega) fun gg c2 zs hzs=> ?_
  refine b9 (fun w H=>(H.oat (k:=0) Z).form) ?_
  rintro ⟨_,_,hv2,p1,p2,_⟩
  cases hv2
  have hz0:(et l1++zs).length=(l1.length+l2.length+1)*32:=by rw [List.length_append,hl1,hzs];omega
  refine af Z <| a8r <| bgi Z Z <| b5 Z (by omega) <| af Z ?_
  refine a9 43 (.slice (some ⟨gg,l1.length*32,none⟩) (l2.length+1) (c2 - l1.length)) Z (by
   simp only [Int.toNat_natCast]
   rw [if_neg (by omega)]
   simp only [Option.map_some,Addr.add]
   rw [show l1.length+(l2.length+1) - l1.length=l2.length+1 by omega]
   split <;> simp_all) ?_
  refine ahv 0 (l1.length*32) (m:=1) (news:=u8s x) (cs':=et l1++u8s x++zs.drop 32) Z Z Z Z Z Z Z Z Z (by rw [show min 1 (l2.length+1)=1 by omega,List.take_of_length_le (by omega),← hl1,aiw,xl]) Z (by omega) (fun w H=>(H.blk (k:=2) Z).sl (by rw [xl]) (by decide)) (by rw [hz0];omega) (fun u hu=>dt x u (List.mem_of_mem_take hu)) ?_
  refine bd3 <| ae <| b7 flo F (by decide +kernel) (ac 3 [] Z Z) <| ay Z Zl <| ay Z Zl <| ay Z Zl <| dj Z Z (by (unfold I64;omega)) <| dj Z Z (by omega) <| ay Z Zl <| ay Z Zl <| dj Z Z (by omega) ?_
  refine b4 50 (.slice (some ⟨gg,(l1.length+1)*32,none⟩) l2.length (c2 - (l1.length+1))) Z (by
   rw [show ((l1.length:Int)+((1:Nat):Int)).toNat=l1.length+1 by omega,if_neg (by omega)]
   simp only [Option.map_some,Addr.add]
   rw [show l1.length+(l2.length+1) - (l1.length+1)=l2.length by omega]
   split <;> simp_all) ?_
  refine b4 53 (.slice (if c=l1.length then some ⟨gA,oA,none⟩ else (some (⟨gA,oA,none⟩:Addr)).map (·.add (l1.length*32))) l2.length (c - l1.length)) Z (by
   simp only [Int.toNat_natCast]
   rw [show (l1++l2).length - l1.length=l2.length by omega]) ?_
  refine ahw 0 ((l1.length+1)*32) (m:=l2.length) (news:=et l2) (cs':=et l1++u8s x++et l2) Z Z Z Z Z Z Z Z Z Z (by
   rw [Nat.min_self,List.take_of_length_le (by omega),show (l1.length+1)*32=(et l1++u8s x).length by rw [List.length_append,hl1,xl];omega,aiw,List.drop_of_length_le (by rw [List.length_drop,hzs,hl2];omega),List.append_nil]) Z (by omega) (fun w H=>by
   have:=((H.oat (k:=1) Z).drop (k:=l1.length) (by omega)).sl
   rwa [hpost,show (l1++l2).length - l1.length=l2.length by omega] at this) (by simp only [List.length_append,List.length_drop,hl1,xl,hzs];omega) (fun u hu=>am2 l2 u (List.mem_of_mem_take hu)) (ac 3 [] Z Z) ?_
  refine az <| aa <| bd4 <| bgi Z Z <| bd3 <| aj <| ag ?_
  rw [← hfin,show l1.length+(l2.length+1)=(l1++x::l2).length by omega]
  refine ai Z (.tmp Z .nil) (ac 3 [0] Z Z) ?_
  rfl
 refine cm 31 (.bool false) Z (congrArg Value.bool (decide_eq_false (by omega))) <| al Z <| ao <| aa <| bd4 <| bgj Z Z Z <| b5 Z (by (unfold I64;omega)) <| b5 Z (by omega) <| af Z <| bd3 <| ae <| bd4 <| bgj Z Z Z <| af Z <| b5 Z (by (unfold I64;omega)) <| b5 Z (by omega) ?_
 refine a9 0 (.slice (some ⟨gA,oA,none⟩) ((l1++l2).length+1) c) Z (by
  rw [show (((l1++l2).length:Int)+((1:Nat):Int)).toNat=(l1++l2).length+1 by omega]) ?_
 refine awf 0 Z (by omega) (fun _=>rfl) fun zs hzs=> ?_
 have hN:(l1++l2).length+1=l1.length+(l2.length+1):=by omega
 have hI:(et (l1++l2)).length=(l1++l2).length*32:=by rw [tu,List.length_append,hl1,hl2];omega
 have hbase:et (l1++l2)++zs=et l1++(et l2++zs):=by rw [tu,List.append_assoc]
 skip
 refine a9 66 (.slice (some ⟨gA,oA+(l1.length+1)*32,none⟩) l2.length (c - (l1.length+1))) Z (by
  rw [show ((l1.length:Int)+((1:Nat):Int)).toNat=l1.length+1 by omega,if_neg (by omega)]
  simp only [Option.map_some,Addr.add]
  rw [show (((l1++l2).length:Int)+((1:Nat):Int)).toNat - (l1.length+1)=l2.length by omega]
  split <;> simp_all) ?_
 refine a6l (tS:=aqc) (tR:=ab8) 1 0 Z Z Z Tryz.func132 (by kernel_rfl) (by kernel_rfl) (by kernel_rfl) (by kernel_rfl) Z Z Z Z Z (by omega) ?_
 refine af Z <| bd3 <| aq Z <| ae <| b7 flo F (by decide +kernel) (ac 2 [] Z Z) <| ay Z Zl <| ay Z Zl <| ay Z Zl <| dj Z Z (by (unfold I64;omega)) <| dj Z Z (by omega) <| ay Z Zl <| ay Z Zl <| dj Z Z (by omega) ?_
 refine b4 73 (.slice (some ⟨gA,oA+(l1.length+1)*32,none⟩) l2.length (c - (l1.length+1))) Z (by
  rw [show ((l1.length:Int)+((1:Nat):Int)).toNat=l1.length+1 by omega,if_neg (by omega)]
  simp only [Option.map_some,Addr.add]
  rw [show (l1++l2).length+1 - (l1.length+1)=l2.length by omega]
  split <;> simp_all) ?_
 refine b4 76 (.slice (if c=l1.length then some ⟨gA,oA,none⟩ else (some (⟨gA,oA,none⟩:Addr)).map (·.add (l1.length*32))) (l2.length+1) (c - l1.length)) Z (by
  simp only [Int.toNat_natCast]
  rw [show (l1++l2).length+1 - l1.length=l2.length+1 by omega]) ?_
 have hw:(et l2++zs).length=(l2.length+1)*32:=by rw [List.length_append,hl2,hzs];omega
 refine ahw 0 ((l1.length+1)*32) (m:=l2.length+1) (news:=et l2++zs) (cs':=et l1++(et l2++zs).take 32++et l2) Z Z Z Z Z Z Z Z Z Z (by
  rw [show min (l2.length+1) l2.length=l2.length by omega,List.take_left' hl2,hbase]
  have e1:et l1++(et l2++zs)=(et l1++(et l2++zs).take 32)++(et l2++zs).drop 32:=by rw [List.append_assoc,List.take_append_drop]
  rw [e1,show (l1.length+1)*32=(et l1++(et l2++zs).take 32).length by rw [List.length_append,List.length_take,hl1,hw];omega,aiw,List.drop_of_length_le (by rw [List.length_drop,hw,hl2];omega),List.append_nil]) Z (by omega) (fun w H=>by
  have:=((H.oat (k:=0) Z).drop (k:=l1.length) (by omega)).sl
  rwa [hbase,← hl1,List.drop_left' rfl,hl1,show (l1++l2).length+1 - l1.length=l2.length+1 by omega] at this) (by rw [List.length_append,hI,hzs];omega) (fun u hu=>by
  rw [show min (l2.length+1) l2.length=l2.length by omega,List.take_left' hl2] at hu
  exact am2 l2 u hu) (ac 2 [] Z Z) ?_
 refine az <| aa <| bd4 <| bgi Z Z <| b5 Z (by omega) <| af Z ?_
 refine a9 80 (.slice (some ⟨gA,oA+l1.length*32,none⟩) (l2.length+1) (c - l1.length)) Z (by
  simp only [Int.toNat_natCast]
  rw [if_neg (by omega)]
  simp only [Option.map_some,Addr.add]
  rw [show (l1++l2).length+1 - l1.length=l2.length+1 by omega]
  split <;> simp_all) ?_
 refine ahv 0 (l1.length*32) (m:=1) (news:=u8s x) (cs':=et l1++u8s x++et l2) Z Z Z Z Z Z Z Z Z (by
  rw [show min 1 (l2.length+1)=1 by omega,List.take_of_length_le (l:=u8s x) (by omega),← hl1,List.append_assoc (et l1),aiw,xl,List.drop_left' (by rw [List.length_take,hw];omega)]) Z (by omega) (fun w H=>(H.blk (k:=1) Z).sl (by rw [xl]) (by decide)) (by simp only [List.length_append,List.length_take,hl1,hl2,hzs];omega) (fun u hu=>dt x u (List.mem_of_mem_take hu)) ?_
 refine a8r <| bgi Z Z <| bd3 <| aj <| ag ?_
 rw [← hfin,show (l1++l2).length+1=(l1++x::l2).length by omega]
 refine ai Z (.tmp Z .nil) (ac 2 [0] Z Z) ?_
 rfl
end

def km (id:List Int):BL→Option (List Int)
 | [] => none
 | e :: l => if e.1 = id then some e.2 else km id l
def ah8 (X:BL):Int:=(X.map fun e=>(e.2.length:Int)).sum
theorem aix (id:List Int) (l:List Kp):km id (l.map fun e=>(e.id,e.b))=(kw id l).map (·.b):=by
 induction l with
 | nil => rfl
 | cons e l ih =>
  simp only [List.map_cons,km,kw]
  split
  ·rfl
  ·exact ih
theorem avn (l:List Kp):ah8 (l.map fun e=>(e.id,e.b))=r7 l:=by
 unfold ah8 r7
 rw [List.map_map]
 rfl
def pi (X:BL) (id xs:List Int) (w r:Int):Int:=if 4096<xs.length then 4 else if dg xs w=id then (match km id X with | some y=>if y=xs then 0 else 9 | none=>if r<ah8 X+xs.length then 10 else 0) else 8
def vj (X:BL) (id xs:List Int) (w r:Int):Bool:=(km id X).isNone&&decide (pi X id xs w r=0)
def yt (X:BL) (id xs:List Int) (w r:Int):BL:=if vj X id xs w r=true then X ++ [(id,xs)] else X
section
variable {b:World} {F:List SP} {gs:Nat} {w r:Int} {X:BL} {id xs:List Int} {vb:Value}
theorem bdy (hr:r≤67108864) (hid:idOk id) (hb:∀ w,Sat b F w→VL (Value.int .u8) w vb xs) (hx:ii xs) (hlen:xs.length≤1000000) :
  SC Tryz.prog qo [.pointer (some ⟨gs,0,none⟩),idV id,vb] b (sto gs w r X::F) (fun v F'=>v = .tuple ⟨[.bool (vj X id xs w r),.int .i64 (pi X id xs w r)]⟩∧F'=sto gs w r (yt X id xs w r)::F):=by
 refine SC.opn ?_
 rintro ⟨gm,u,l⟩ ⟨hst,hX⟩
 dsimp only at hst hX
 show SC _ _ _ _ (stB gs gm w r u l F) _
 have hu0:0≤u:=by rw [hst.us];exact axc l
 have hur:=hst.ur
 have hfx:=aix id l
 have hux:=avn l
 rw [hX] at hfx hux
 rw [← hst.us] at hux
 have hp:Ent (stB gs gm w r u l F) (sto gs w r X::F):=ib (G:=fun s:Nat × Int × List Kp=>stB gs s.1 w r s.2.1 s.2.2 []) (p:=fun s=>StI w r s.2.1 s.2.2∧s.2.2.map (fun e=>(e.id,e.b))=X) (gm,u,l) ⟨hst,hX⟩
 cases hfd:kw id l with
 | none =>
  rw [hfd] at hfx
  have hfx':km id X=none:=hfx
  have hE:pi X id xs w r=acl id xs w r u:=by
   unfold pi acl
   rw [hfx',hux]
  refine (azi hb hlen hid hfd (by omega)).out ?_
  intro v F' h
  by_cases h0:acl id xs w r u=0
  ·rw [if_pos h0] at h
   obtain ⟨h1,g,v1,h2⟩:=h
   have hB:vj X id xs w r=true:=by rw [vj,hfx',hE,h0];rfl
   have h3:¬ 4096<xs.length:=fun hc=>by rw [acl,if_pos hc] at h0;omega
   have h4:dg xs w=id:=by
    refine Classical.byContradiction fun hc=> ?_
    rw [acl,if_neg h3,if_neg hc] at h0;omega
   have h5:¬ r<u+xs.length:=fun hc=>by
    rw [acl,if_neg h3,if_pos h4,if_pos hc] at h0;omega
   subst h4
   have hst':=hst.put (g:=g) (v1:=v1) hfd hx (by omega) (by omega)
   subst h2
   refine ⟨_,ib (G:=fun s:Nat × Int × List Kp=>stB gs s.1 w r s.2.1 s.2.2 []) (p:=fun s=>StI w r s.2.1 s.2.2∧s.2.2.map (fun e=>(e.id,e.b))=yt X (dg xs w) xs w r) (gm,_,_) ⟨hst',?_⟩,?_,rfl⟩
   ·dsimp only
    rw [List.map_append,hX,yt,if_pos hB];rfl
   ·rw [hB,hE,h0];exact h1
  ·rw [if_neg h0] at h
   have hB:vj X id xs w r=false:=by rw [vj,hfx',hE];simp [h0]
   obtain ⟨h1,rfl⟩:=h
   exact ⟨_,hp,by rw [hB,hE];exact h1,by rw [yt,hB];rfl⟩
 | some e =>
  rw [hfd] at hfx
  have he:=ahf hfd
  have hfx':km id X=some e.b:=hfx
  have hE:pi X id xs w r=ami id xs e w:=by
   unfold pi ami
   rw [hfx']
  have hB:vj X id xs w r=false:=by rw [vj,hfx'];rfl
  refine (azj hb hlen hid hfd hx (hst.bw e he.1)).out ?_
  rintro v F' ⟨h1,rfl⟩
  exact ⟨_,hp,by rw [hB,hE];exact h1,by rw [yt,hB];rfl⟩
end

def r8 (id:List Int) (l:List (List Int)):List (List Int):=(l.filter fun a=>decide (jd a id<0))++id::l.filter fun a=> !decide (jd a id<0)
theorem ao3 {id:List Int} {l1 l2:List (List Int)} (h1:∀ a∈l1,jd a id<0) (h2:∀ a∈l2,¬ jd a id<0):r8 id (l1++l2)=l1++id::l2:=by
 unfold r8
 rw [List.filter_append,List.filter_append]
 have e1:l1.filter (fun a=>decide (jd a id<0))=l1:=List.filter_eq_self.2 fun a ha=>decide_eq_true (h1 a ha)
 have e2:l2.filter (fun a=>decide (jd a id<0)) = []:=List.filter_eq_nil_iff.2 fun a ha=>by simpa using h2 a ha
 have e3:l1.filter (fun a=> !decide (jd a id<0)) = []:=List.filter_eq_nil_iff.2 fun a ha=>by simpa using h1 a ha
 have e4:l2.filter (fun a=> !decide (jd a id<0))=l2:=List.filter_eq_self.2 fun a ha=>by simpa using h2 a ha
 rw [e1,e2,e3,e4,List.append_nil];rfl
def ahk (L:List Wn) (d:Int × Int) (id:List Int):Bool:=match jc d L with
 | some x => decide (id ∈ x.e.refs)
 | none => false
def yf (L:List Wn) (X:BL) (d:Int × Int) (id xs:List Int) (w r:Int):Int:=if (jc d L).isNone then 0 else if ahk L d id=false then 2 else pi X id xs w r
def lh (L:List Wn) (C:CL) (X:BL) (d:Int × Int) (id xs:List Int) (w r:Int):Bool:=ahk L d id&&decide (pi X id xs w r=0) && !decide (id∈cfm d C)
def ol (L:List Wn) (X:BL) (d:Int × Int) (id xs:List Int) (w r:Int):BL:=if ahk L d id=true then yt X id xs w r else X
def mz (L:List Wn) (C:CL) (X:BL) (d:Int × Int) (id xs:List Int) (w r:Int):CL:=if lh L C X d id xs w r=true then zr d (r8 id (cfm d C)) C else C
theorem Hs.ref {d:Int × Int} {L:List Wn} {y:Ev} {s:Int} {is:Bool} (h:Hs d L y s is) (id:List Int):ahk L d id=(is&&decide (id∈y.refs))∧(jc d L).isNone = !is:=by
 have h1:=h.eq
 unfold ahd at h1
 unfold ahk
 cases hf:jc d L with
 | none =>
  rw [hf] at h1
  have h3:is=false:=congrArg (fun z=>z.2.2) h1
  rw [h3];exact ⟨rfl,rfl⟩
 | some x =>
  rw [hf] at h1
  have h2:y.refs=x.e.refs:=congrArg (fun z=>z.1.refs) h1
  have h3:is=true:=congrArg (fun z=>z.2.2) h1
  rw [h2,h3];exact ⟨rfl,rfl⟩
theorem a03 (d:Int × Int) (v:Value) (ids:List (List Int)) (l:List Pf):∃ l',yx d (.agg ⟨[v]⟩) (pM l)=pM l'∧prf l'=zr d ids (prf l)∧∃ B,(rD v ids::pF l).Perm (B++pF l'):=by
 induction l with
 | nil => exact ⟨[⟨d, ids, v⟩], rfl, rfl, [], .refl _⟩
 | cons e l ih =>
  by_cases h:e.d=d
  ·refine ⟨⟨d,ids,v⟩::l,?_,?_,[rD e.v e.ids],.swap _ _ _⟩
   ·simp only [pM,yx];rw [if_pos h]
   ·show _=(if e.d=d then (d,ids)::prf l else _)
    rw [if_pos h];rfl
  ·obtain ⟨l',h1,h2,B,h3⟩:=ih
   refine ⟨e::l',?_,?_,B,?_⟩
   ·simp only [pM,yx];rw [if_neg h,h1]
   ·show (e.d,e.ids)::prf l'=(if e.d=d then _ else (e.d,e.ids)::zr d ids (prf l))
    rw [if_neg h,h2]
   ·exact (List.Perm.swap _ _ _).trans ((h3.cons (rD e.v e.ids)).trans List.perm_middle.symm)
def RC' (C:CL):Prop:=∀ d,ahj (cfm d C)
section
variable {b:World} {F:List SP} {gg gq gs gp n:Nat} {w r:Int} {V:List Int} {L:List Wn} {X:BL} {C:CL} {d:Int × Int} {id xs:List Int} {vb:Value}
set_option maxRecDepth 20000 in
set_option maxHeartbeats 8000000 in
theorem a04 (hC:CK C) (hR:RC' C) (hd:j8 d) (hid:idOk id) (hr:r≤67108864) (hb:∀ w,Sat b F w→VL (Value.int .u8) w vb xs) (hx:ii xs) (hlen:xs.length≤1000000) :
  SC Tryz.prog aen [.pointer (some ⟨gg,0,none⟩),ry d,idV id,vb] b (gat gg gq gs C::que gq n V L::sto gs w r X::F) (fun u F'=>u = .tuple ⟨[.bool (lh L C X d id xs w r),.int .i64 (yf L X d id xs w r)]⟩∧F'=gat gg gq gs (mz L C X d id xs w r)::que gq n V L::sto gs w r (ol L X d id xs w r)::F):=by
 refine SC.opn ?_
 rintro ⟨gp,P⟩ hP
 dsimp only at hP
 refine SC.out (R:=fun u F'=>∃ P',prf P'=mz L C X d id xs w r∧u = .tuple ⟨[.bool (lh L C X d id xs w r),.int .i64 (yf L X d id xs w r)]⟩∧F'=stG gg gq gs gp P' (que gq n V L::sto gs w r (ol L X d id xs w r)::F)) ?_ (by
  rintro u _ ⟨P',h0,h1,rfl⟩
  exact ⟨_,ib (G:=fun s:Nat × List Pf=>stG gg gq gs s.1 s.2 []) (p:=fun s=>prf s.2=mz L C X d id xs w r) (gp,P') h0,h1,rfl⟩)
 have i32:=hid.1
 show SC _ _ _ _ (stG gg gq gs gp P (que gq n V L::sto gs w r X::F)) _
 refine bf Tryz.func14 Z Z Z <| bt (ahc (k:=3) Z) fun hq=>bd4 <| cq Z Z Z Z Z fun g5=>cq Z Z Z Z Z fun g6=>bgi Z Z <| bd3 <| ae <| bd4 <| af Z <| bh Z Z Z ((ahh (F:=que gq n V L::sto gs w r X::pt g6 t_api_ID (u8s id)::pt g5 t_api_Dot [.int .i64 d.1,.int .i64 d.2]::F)).at (ac 7 [2,3,4,5,6,0,1] Z Z) (ac 7 [5,6,0,1,2,3,4] Z Z)) <| bd3 <| al Z <| ao <| aa <| ae ?_
 refine wv (S':=Nat × Ev × Int × Bool) flo 9 0 0 [0,1,2,3,4,5,6,7,8] (OT.pre [10,11] .nil) (pt g5 t_api_Dot [.int .i64 d.1,.int .i64 d.2]::pt gg eu (gtC gq gs gp)::F) Z (by decide +kernel) Z (ac 7 [1,2] Z Z) (fun q=> [(0,.pointer (some ⟨gg,0,none⟩)),(3,vb),(5,.pointer (some ⟨g5,0,none⟩)),(6,.pointer (some ⟨g6,0,none⟩)),(10,.pointer (some ⟨q.1,0,none⟩)),(25,.agg ⟨wsC q.2.1 q.2.2.1⟩),(26,.bool q.2.2.2)]) (fun q=>pt q.1 b8 (wsC ev0 0)::rZ q.2.1.dv q.2.1.deps::rD q.2.1.rv q.2.1.refs::pt g6 t_api_ID (u8s id)::pt g5 t_api_Dot [.int .i64 d.1,.int .i64 d.2]::stG gg gq gs gp P (que gq n V L::sto gs w r X::F)) (fun q=>Hs d L q.2.1 q.2.2.1 q.2.2.2) (fun q _=>ac 10 [4,5] Z Z) ?_ (fun J=> ?_)
 ·rintro ⟨g10,y,s,is⟩ hs
  dsimp only at hs ⊢
  have h32:=hs.ew.l32
  obtain ⟨hrf,hno⟩:=hs.ref id
  refine mg 10 2 .nil Z Z ?_
  skip
  refine ie (fun w H=>(H.oat (k:=2) Z).form) ?_
  rintro ⟨A2,c2,hrv,_,_,_⟩
  refine ie (ux (e:=y) (i:=1) (j:=2) Z Z) fun hone=> ?_
  refine qr (vs:=wsC y s) 0 Z Z Z Z Z Z Z Z (ec h32) (ng hone.1 hone.2) (by rw [ec h32];rfl) (ac 10 [4,5] Z Z) ?_
  refine ay Z Zl <| az <| vp ?_
  cases is with
  | false =>
   refine aa <| ae <| ar <| bd4 <| bgj Z Z Z <| bd3 <| aq Z <| bd4 <| bgi Z Z <| bd3 <| aj <| ap <| ag <| ai Z (.tmp Z (.tmp Z .nil)) (ac 10 [5,6,7,8,9] Z Z) ?_
   have hB:lh L C X d id xs w r=false:=by rw [lh,hrf];rfl
   refine ⟨P,by rw [mz,hB];exact hP,by rw [hB,yf,if_pos (by rw [hno];rfl)];rfl,?_⟩
   rw [ol,hrf];rfl
  | true =>
  refine aa <| ae <| ar <| bd4 <| bgj Z Z Z <| bd3 <| al Z <| bd4 <| bgi Z Z <| kr 0 Z Z Z Z Z Z ((ag8 h32).trans (congrArg some hrv)) Z <| dk 3 Z Z Z Z Z Z (ig i32) Z ?_
  refine bh Z Z Z (wa (fun w H=>by rw [← hrv];exact (H.oat (k:=2) Z).sl) hs.ew.r32 i32 hs.ln.2) ?_
  by_cases hin:id∈y.refs
  rotate_left
  ·rw [decide_eq_false hin] at hrf ⊢
   refine bgi Z Z <| bd3 <| aq Z <| bd4 <| bgi Z Z <| bd3 <| aj <| ap <| ag <| ai Z (.tmp Z (.tmp Z .nil)) (ac 10 [5,6,7,8,9] Z Z) ?_
   have hB:lh L C X d id xs w r=false:=by rw [lh,hrf];rfl
   refine ⟨P,by rw [mz,hB];exact hP,by rw [hB,yf,if_neg (by rw [hno];decide),if_pos (show ahk L d id=false from hrf)];rfl,?_⟩
   rw [ol,hrf];rfl
  rw [decide_eq_true hin] at hrf ⊢
  have hX':ol L X d id xs w r=yt X id xs w r:=by rw [ol,hrf];rfl
  have hE':yf L X d id xs w r=pi X id xs w r:=by rw [yf,if_neg (by rw [hno];decide),if_neg (by rw [hrf];decide)]
  refine bgi Z Z <| bd3 <| al Z <| ao <| ba <| aa <| ae <| ae <| b7 flo (pt g6 t_api_ID (u8s id)::pt gg eu (gtC gq gs gp)::F) (by decide +kernel) (ac 10 [3,5] Z Z) <| ay Z Zl <| ay Z Zl <| ay Z Zl <| de 1 Z Z Z Z <| jm 0 Z Z Z Z Z Z (ig i32) Z Z <| ay Z Zl <| dz Z Z Z Z ((bdy (gs:=gs) (w:=w) (r:=r) (X:=X) (F:=pt g10 b8 (wsC y s)::rZ y.dv y.deps::rD y.rv y.refs::pt g6 t_api_ID (u8s id)::pt g5 t_api_Dot [.int .i64 d.1,.int .i64 d.2]::stG gg gq gs gp P (que gq n V L::F)) hr hid (up hb (ac 9 [] Z Z)) hx hlen).ent (ac 10 [9,0,1,2,3,4,5,6,7,8] Z Z)) ?_
  rintro _ _ ⟨rfl,rfl⟩
  refine ⟨ac 10 [4,6] Z rfl,(agp (ac 10 [1,2,3,4,5,6,7,8,9,0] Z Z) ?_)⟩
  (iterate 5 refine ay Z Zl ?_)
  refine az <| aa <| bd4 <| bgi Z Z <| bd3 ?_
  by_cases he:pi X id xs w r=0
  rotate_left
  ·refine cm 48 (.bool true) Z (congrArg Value.bool (by rw [decide_eq_false he];rfl)) ?_
   refine aq Z <| bd4 <| bgj Z Z Z <| bd3 <| aj <| ag <| ai Z (.tmp Z (.tmp Z .nil)) (ac 10 [5,6,7,8,9] Z Z) ?_
   have hB:lh L C X d id xs w r=false:=by rw [lh,decide_eq_false he];simp
   refine ⟨P,by rw [mz,hB];exact hP,by rw [hB,hE'];rfl,?_⟩
   rw [hX']
  refine cm 48 (.bool false) Z (congrArg Value.bool (by rw [decide_eq_true he];rfl)) ?_
  refine al Z <| ao <| aa <| ae ?_
  refine bt (fun w H=>by exact atv (l:=P) d (k:=7) H Z) ?_
  rintro ⟨A3,c3,hat⟩
  have hsl:∀ {F9:List SP} {k:Nat},nth F9 k=some (all (pF P))→∀ W,Sat b F9 W→SL W 32 (.slice A3 (cfm d C).length c3) (cfm d C).length (et (cfm d C)):=fun {F9 k} hk=>by
   have:=a0x (b:=b) (F:=F9) (k:=k) hat hk
   rwa [hP] at this
  rw [hP] at hat
  refine b7 flo (pt g5 t_api_Dot [.int .i64 d.1,.int .i64 d.2]::pt gg eu (gtC gq gs gp)::mpG gp P::F) (by decide +kernel) (ac 10 [4,5,6] Z Z) <| ay Z Zl <| ay Z Zl <| ay Z Zl <| de 1 Z Z Z Z <| de 0 Z Z Z Z <| ajp 2 uu hd hat Z Z Z Z Z Z Z Z Z <| m6 Z Z Z Z Z Z (ac 10 [4,5,6] Z Z) fun g14=> ?_
  refine qr (vs:= [.slice A3 (cfm d C).length c3]) 0 Z Z Z Z Z Z Z Z Z (by simp [Value.oneCell']) Z (ac 11 [5,6,7] Z Z) ?_
  skip
  refine az <| aa <| bd4 <| af Z <| df 0 Z Z Z <| dk 4 Z Z Z Z Z Z (ig i32) Z <| bq Z Z Z (aro (hsl (k:=8) Z) (hC d).1 hid (hC d).2 (hR d)) ?_
  rintro _ _ ⟨⟨l1,l2,hl,hl1,hl2,rfl⟩,rfl⟩
  (iterate 5 refine af Z ?_)
  refine bd3 <| ae <| bd4 <| af Z <| bd3 ?_
  by_cases hf:id∈cfm d C
  ·refine cm 63 (.bool true) Z (congrArg Value.bool (decide_eq_true hf)) <| aq Z <| bd4 <| bgi Z Z <| bd3 <| aj <| ag <| ai Z (.tmp Z (.tmp Z .nil)) (ac 11 [6,7,8,9,10] Z Z) ?_
   have hB:lh L C X d id xs w r=false:=by rw [lh,decide_eq_true hf];simp
   refine ⟨P,by rw [mz,hB];exact hP,by rw [hB,hE',he];rfl,?_⟩
   rw [hX']
  refine cm 63 (.bool false) Z (congrArg Value.bool (decide_eq_false hf)) ?_
  have hB:lh L C X d id xs w r=true:=by rw [lh,hrf,decide_eq_true he,decide_eq_false hf];rfl
  refine al Z <| ao <| aa <| ae ?_
  refine wv (S':=Nat × Option Addr × Nat) flo 10 9 1 [0,1,2,3,4,5,6,7,8] (OT.pre [11,12,13] .nil) (pt g14 ru [.slice A3 (cfm d C).length c3]::pt g6 t_api_ID (u8s id)::pt g5 t_api_Dot [.int .i64 d.1,.int .i64 d.2]::pt gg eu (gtC gq gs gp)::F) Z (by decide +kernel) Z (ac 11 [0,4,5,6] Z Z) (fun q=> [(67,.map (some gp)),(68,ry d),(71,.slice q.2.1 (cfm d C).length q.2.2),(72,.int .i64 l1.length),(74,.slice (some ⟨q.1,0,none⟩) 1 1)])
   (fun q=>rD (.slice q.2.1 (cfm d C).length q.2.2) (cfm d C)::pt q.1 t_api_ID (u8s id)::pt g14 ru [.slice A3 (cfm d C).length c3]::pt g10 b8 (wsC y s)::rZ y.dv y.deps::rD y.rv y.refs::pt g6 t_api_ID (u8s id)::pt g5 t_api_Dot [.int .i64 d.1,.int .i64 d.2]::stG gg gq gs gp P (que gq n V L::sto gs w r (yt X id xs w r)::F)) (fun q=>True) (fun q _=>ac 13 [2,6,7,8] Z Z) ?_ (fun J=> ?_)
  ·rintro ⟨gl,A7,c7⟩ _
   dsimp only
   have hm:=(hC d).2
   have hl32:fw (l1++l2):=fun a ha=>((hC d).1 a (by rw [hl];exact ha)).1
   have hfin:mz L C X d id xs w r=zr d (l1++id::l2) (prf P):=by rw [mz,if_pos hB,hl,ao3 hl1 hl2,hP]
   rw [hl] at hm ⊢
   refine mg 11 3 .nil Z Z <| dz Z Z Z Z (a02 (l1:=l1) (l2:=l2) (x:=id) (fun a ha=>hl32 a (List.mem_append_left _ ha)) (fun a ha=>hl32 a (List.mem_append_right _ ha)) i32 hm) ?_
   rintro v9 _ rfl
   refine ⟨ac 12 [1,5,6,7] Z rfl,(ie (fun w H=>(H.oat (k:=0) Z).form) ?_)⟩
   rintro ⟨A9,c9,rfl,_,_,_⟩
   refine ay Z Zl ?_
   obtain ⟨P',p1,p2,B,p3⟩:=a03 d (.slice A9 (l1++id::l2).length c9) (l1++id::l2) P
   refine b4 76 (.agg ⟨[.slice A9 (l1++id::l2).length c9]⟩) Z Z <| anp 8 uu hd Z Z Z Z Z Z Z Z Z (ac 12 [1,5,6,7] Z Z) <| az <| vp ?_
   rw [p1]
   refine aa <| bd4 <| bgi Z Z <| bd3 <| aj <| lv (G:= [rD (.slice A9 (l1++id::l2).length c9) (l1++id::l2)]++(all (pF P)::pt gg eu (gtC gq gs gp)::mpG gp P'::que gq n V L::sto gs w r (yt X id xs w r)::F)) (ac 12 [0,9,7,8,10,11] Z Z) <| lv (ql (A:=rD (.slice A9 (l1++id::l2).length c9) (l1++id::l2)::pF P) (.refl _)) <| lv (tz p3) <| lv (ap6 B) <| ai Z (.tmp Z (.tmp Z .nil)) (ac 5 [1,2,0,3,4] Z Z) ?_
   refine ⟨P',?_,by rw [hB,hE',he];rfl,by rw [hX']⟩
   rw [p2,hfin]
  ·refine jm 1 Z Z Z Z Z Z (ig i32) Z Z <| az <| ma 0 7 (R2:= [7,8]) Z Z (by decide +kernel) Z (ac 11 [0,4,5,6] Z Z) <| ay Z Zl <| ay Z Zl <| ay Z Zl <| de 3 Z Z Z Z <| de 2 Z Z Z Z <| ay Z Zl <| de 0 Z Z Z Z <| az ?_
   refine uh (R2:= [8]) Z (by decide +kernel) Z Z (ac 11 [0,4,5,6] Z Z) ?_ ?_
   ·refine n9 (cs:=u8s id) Z Z Z Z Z Z Z Z (by rw [bg,i32];rfl) (by decide) (ac 11 [0,4,5,6] Z Z) fun gl=> ?_
    refine az <| aht 7 2 Z Z (ac 12 [1,5,6,7] Z Z) <| dz Z Z Z Z (wi (hsl (k:=9) Z) (hC d).2) ?_
    rintro v7 _ rfl
    refine ⟨ac 13 [2,6,7,8] Z rfl,(ie (fun w H=>(H.oat (k:=0) Z).form) ?_)⟩
    rintro ⟨A7,c7,rfl,_,_,_⟩
    refine ay Z Zl <| az ?_
    exact J (gl,A7,c7) _ _ trivial ⟨rfl,rfl,rfl,rfl,rfl,trivial⟩ (Ent.refl _)
   ·refine dz Z Z Z Z (wi (hsl (k:=8) Z) (hC d).2) ?_
    rintro v7 _ rfl
    refine ⟨ac 12 [1,5,6,7] Z rfl,(ie (fun w H=>(H.oat (k:=0) Z).form) ?_)⟩
    rintro ⟨A7,c7,rfl,_,_,_⟩
    refine az <| ma 8 1 (R2:= []) Z Z (by decide +kernel) Z (ac 12 [1,5,6,7] Z Z) <| ay Z Zl <| az <| ww Z (by decide +kernel) Z (ac 12 [1,5,6,7] Z Z) ?_
    refine n9 (cs:=u8s id) Z Z Z Z Z Z Z Z (by rw [bg,i32];rfl) (by decide) (ac 12 [1,5,6,7] Z Z) fun gl=> ?_
    refine az ?_
    exact J (gl,A7,c7) _ _ trivial ⟨rfl,rfl,rfl,rfl,rfl,trivial⟩ (ac 13 [1,0,2,3,4,5,6,7,8,9,10,11,12] Z Z)
 ·refine az <| ma 0 5 (R2:= [5,6,7,8]) Z Z (by decide +kernel) Z (ac 7 [1,2] Z Z) <| ay Z Zl <| ay Z Zl <| ay Z Zl <| de 1 Z Z Z Z <| de 0 Z Z Z Z <| az ?_
  refine uh (R2:= [6,7,8]) Z (by decide +kernel) Z Z (ac 7 [1,2] Z Z) ?_ ?_
  ·refine m6 Z Z Z Z Z Z (ac 7 [1,2] Z Z) fun g10=>az <| aht 5 4 Z Z (ac 8 [2,3] Z Z) <| dz Z Z Z Z ((af9 (gq:=gq) (n:=n) (V:=V) (L:=L) (F:=pt g10 b8 (wsC ev0 0)::pt g6 t_api_ID (u8s id)::pt g5 t_api_Dot [.int .i64 d.1,.int .i64 d.2]::stG gg gq gs gp P (sto gs w r X::F)) hd hq).ent (ac 8 [6,0,1,2,3,4,5,7] Z Z)) ?_
   rintro _ _ ⟨y,s,is,hs,rfl,rfl⟩
   refine ⟨ac 10 [5,6] Z rfl,(ay Z Zl <| ay Z Zl <| ay Z Zl <| az ?_)⟩
   exact J (g10,y,s,is) _ _ hs ⟨rfl,rfl,rfl,rfl,rfl,rfl,rfl,trivial⟩ (ac 10 [3,0,1,4,5,6,7,8,2,9] Z Z)
  ·refine dz Z Z Z Z ((af9 (gq:=gq) (n:=n) (V:=V) (L:=L) (F:=pt g6 t_api_ID (u8s id)::pt g5 t_api_Dot [.int .i64 d.1,.int .i64 d.2]::stG gg gq gs gp P (sto gs w r X::F)) hd hq).ent (ac 7 [5,0,1,2,3,4,6] Z Z)) ?_
   rintro _ _ ⟨y,s,is,hs,rfl,rfl⟩
   refine ⟨ac 9 [4,5] Z rfl,(az <| ma 6 3 (R2:= []) Z Z (by decide +kernel) Z (ac 9 [4,5] Z Z) <| ay Z Zl <| ay Z Zl <| ay Z Zl <| az <| ww Z (by decide +kernel) Z (ac 9 [4,5] Z Z) <| m6 Z Z Z Z Z Z (ac 9 [4,5] Z Z) fun g10=>az ?_)⟩
   exact J (g10,y,s,is) _ _ hs ⟨rfl,rfl,rfl,rfl,rfl,rfl,rfl,trivial⟩ (ac 10 [0,1,2,4,5,6,7,8,3,9] Z Z)
end

set_option maxRecDepth 20000 in
theorem a34 (k:Nat) (a b:Int) (w:World):(Op.equalIn (k+1+1) t_api_Dot (nu a b) (nu a b)).run Tryz.prog w = .ok true w:=by
 have hS:Tryz.prog.underlying t_api_Dot=some (.struct (Tryz.prog.fieldsOf t_api_Dot)):=by kernel_rfl
 have hp:Tryz.prog.stoodInHeld t_api_Dot=false:=by kernel_rfl
 have hf : ∃ f g : Field, (Tryz.prog.fieldsOf t_api_Dot).toList = [f, g] ∧ f.name ≠ "_" ∧ g.name ≠ "_" ∧ f.type = fe ∧ g.type = fe ∧ f.offset = 0 ∧ g.offset = 1 :=
  ⟨_,_,rfl,by decide,by decide,rfl,rfl,rfl,rfl⟩
 obtain ⟨f,g,h1,h2,h3,h4,h5,h6,h7⟩:=hf
 have ui:Tryz.prog.underlying fe=some (.int .i64):=by kernel_rfl
 rw [run_equalIn_struct w (k+1) t_api_Dot _ _ hS hp,h1]
 have p0:∀ (x y:Int),(part fe #[.int .i64 x,.int .i64 y] 0).run Tryz.prog w = .ok (.int .i64 x) w:=fun x y=>by simp [part,isAgg,run_underlying ui]
 have p1:∀ (x y:Int),(part fe #[.int .i64 x,.int .i64 y] 1).run Tryz.prog w = .ok (.int .i64 y) w:=fun x y=>by simp [part,isAgg,run_underlying ui]
 have q:∀ x y:Int,(Op.equalIn (k+1) fe (.int .i64 x) (.int .i64 y)).run Tryz.prog w = .ok (x == y) w:=fun x y=>run_equalIn_int w k fe .i64 .i64 x y ui
 simp only [Op.eqFields,h2,h3,h4,h5,h6,h7,ne_eq,not_false_eq_true,if_true,Sem.run_bind,p0,p1,q,Result.andThen_ok]
 simp [p1,q]
theorem bgg {P:Program} {t n:Nat} {k:IntKind} [h:ArrI P t n k] (dp:Nat) {a:List Int} (ha:a.length=n) (w:World) :
  (Op.equalIn (dp+1+1) t (.agg ⟨a.map (Value.int k)⟩) (.agg ⟨a.map (Value.int k)⟩)).run P w = .ok true w:=by
 obtain ⟨e,i,h1,h2,h3,h4⟩:=h.ex
 rw [run_equalIn_array w (dp+1) _ _ h1 h3]
 have hc:P.cellsOf e=1:=by simp [Program.cellsOf,h3,h4]
 have hp:P.plainKey e=true:=by simp [Program.plainKey,h2]
 rw [hc]
 have key:∀ m j,j+m=n→(Op.eqItems (dp+1) e 1 ⟨a.map (Value.int k)⟩ ⟨a.map (Value.int k)⟩ (List.range' j m)).run P w = .ok true w:=by
  intro m
  induction m with
  | zero => intro j hj; simp [Op.eqItems]
  | succ m ih =>
   intro j hj
   have hja:j<a.length:=by omega
   have p1:=run_part_plain (P:=P) w hp (xs:=⟨a.map (Value.int k)⟩) (off:=j) (v:= .int k a[j]) (by simp [hja])
   simp only [List.range'_succ,Op.eqItems,Nat.mul_one,Sem.run_bind,p1,Result.andThen_ok,run_equalIn_int w dp e k k _ _ h2]
   simp only [beq_self_eq_true,Bool.not_true,Bool.false_eq_true,if_false]
   exact ih (j+1) (by omega)
 have:=key n 0 (by omega)
 simpa [List.range_eq_range'] using this
theorem ak5 {P : Program} {dp : Nat} {xs ys : Array Value} {f : Field} {fs : List Field} {w : World} {a c : Value} (hn : f.name ≠ "_") (ha : (part f.type xs f.offset).run P w = .ok a w) (hb : (part f.type ys f.offset).run P w = .ok c w) (he : (Op.equalIn dp f.type a c).run P w = .ok true w) :
  (Op.eqFields dp xs ys (f::fs)).run P w=(Op.eqFields dp xs ys fs).run P w:=by
 simp [Op.eqFields,hn,ha,hb,he]
set_option maxRecDepth 20000 in
theorem a05 (k0:Nat) {a:Wt} (h:a.id.length=32) (w:World):(Op.equalIn (k0+1+1+1) t_api_Want (.agg ⟨wtC a⟩) (.agg ⟨wtC a⟩)).run Tryz.prog w = .ok true w:=by
 have hS:Tryz.prog.underlying t_api_Want=some (.struct (Tryz.prog.fieldsOf t_api_Want)):=by kernel_rfl
 have hp:Tryz.prog.stoodInHeld t_api_Want=false:=by kernel_rfl
 have hf : ∃ f g k : Field, (Tryz.prog.fieldsOf t_api_Want).toList = [f, g, k] ∧ f.name ≠ "_" ∧ g.name ≠ "_" ∧ k.name ≠ "_" ∧ f.type = t_api_Dot ∧ g.type = t_api_ID ∧ k.type = fe ∧ f.offset = 0 ∧ g.offset = 2 ∧ k.offset = 34 :=
  ⟨_,_,_,rfl,by decide,by decide,by decide,rfl,rfl,rfl,rfl,rfl,rfl⟩
 obtain ⟨f,g,k,h1,h2,h3,h3',h4,h5,h5',h6,h7,h8⟩:=hf
 have ui:Tryz.prog.underlying fe=some (.int .i64):=by kernel_rfl
 rw [run_equalIn_struct w (k0+1+1) t_api_Want _ _ hS hp,h1]
 have ud:Tryz.prog.underlying t_api_Dot=some (.struct (Tryz.prog.fieldsOf t_api_Dot)):=by kernel_rfl
 obtain ⟨e,i,ua,_,_,_⟩:=(inferInstance:ArrI Tryz.prog t_api_ID 32 .u8).ex
 have sd:(sizeOf t_api_Dot).run Tryz.prog w = .ok 2 w:=TT.run_size (P:=Tryz.prog) (t:=t_api_Dot) Z w
 have sa:(sizeOf t_api_ID).run Tryz.prog w = .ok 32 w:=TT.run_size (P:=Tryz.prog) (t:=t_api_ID) Z w
 have hl:=yb h
 have e2:(⟨wtC a⟩:Array Value)[34]? = some (.int .i64 a.to):=by
  simp [wtC,h]
 have p0:(part t_api_Dot ⟨wtC a⟩ 0).run Tryz.prog w = .ok (nu a.d.1 a.d.2) w:=by
  simp [part,isAgg,run_underlying ud,sd]
  rfl
 have p1:(part t_api_ID ⟨wtC a⟩ 2).run Tryz.prog w = .ok (idV a.id) w:=by
  simp [part,isAgg,run_underlying ua,sa]
  simp [wtC,h]
 have p2:(part fe ⟨wtC a⟩ 34).run Tryz.prog w = .ok (.int .i64 a.to) w:=by simp [part,isAgg,run_underlying ui,e2]
 have q0:=a34 k0 a.d.1 a.d.2 w
 have q1:=bgg (P:=Tryz.prog) (t:=t_api_ID) k0 h w
 have q2:(Op.equalIn (k0+1+1) fe (.int .i64 a.to) (.int .i64 a.to)).run Tryz.prog w = .ok (a.to == a.to) w:=run_equalIn_int w (k0+1) fe .i64 .i64 _ _ ui
 clear hS hp ud ua sd sa hl e2 ui
 rw [ak5 h2 (by rw [h4,h6];exact p0) (by rw [h4,h6];exact p0) (by rw [h4];exact q0),ak5 h3 (by rw [h5,h7];exact p1) (by rw [h5,h7];exact p1) (by rw [h5];exact q1),ak5 h3' (by rw [h5',h8];exact p2) (by rw [h5',h8];exact p2) (by rw [h5',q2,beq_self_eq_true])]
 rfl
theorem a35 {a:Wt} (h:a.id.length=32) (w:World):(Op.equalIn 10000 t_api_Want (.agg ⟨wtC a⟩) (.agg ⟨wtC a⟩)).run Tryz.prog w = .ok true w:=by
 rw [show (10000:Nat)=9997+1+1+1 from rfl]
 exact a05 9997 h w
instance:EqT Tryz.prog t_api_Want:=⟨by kernel_rfl⟩
section
variable {b:World} {F:List SP}
set_option maxRecDepth 20000 in
set_option maxHeartbeats 2000000 in
theorem ah9 {va vb:Value} {l:List Wt} (ha:∀ w,Sat b F w→SL w 35 va l.length (flC wtC l)) (hb:∀ w,Sat b F w→SL w 35 vb l.length (flC wtC l)) (h32:∀ x∈l,x.id.length=32) (hm:l.length≤67108864):SC Tryz.prog yz [va,vb] b F (fun v F'=>v = .bool true∧F'=F):=by
 refine bf Tryz.func36 Z Z Z <| bt (fun w H=>du (ha w H)) ?_
 rintro ⟨A,c,rfl,h1,h2,h3,h4,_⟩
 refine bt (fun w H=>du (hb w H)) ?_
 rintro ⟨B,d,rfl,q1,q2,q3,q4,_⟩
 refine bd4 <| af Z <| a8r ?_
 (iterate 6 refine af Z ?_)
 refine bd3 <| ae <| bd4 <| af Z <| bd3 <| ar ?_
 refine cm 5 (.bool true) Z (by simp) ?_
 refine b6 (S:=Nat) (fun i=> [(0,.slice A l.length c),(1,.slice B l.length d),(5,.bool true),(6,.int .i64 (i:Int))]) (fun _=>F) (fun i=>i≤l.length) (fun i=>l.length - i) 0 ⟨rfl,rfl,rfl,rfl,trivial⟩ (Ent.refl _) (Nat.zero_le _) ?_
 intro i hi
 refine ae <| bd4 ?_
 (iterate 7 refine af Z ?_)
 refine bd3 ?_
 refine di Z (fun g1=> ?_) (fun g1=> ?_)
 ·have g1':i<l.length:=by omega
  obtain ⟨gA,oA,rfl⟩:=h4 (by omega)
  obtain ⟨gB,oB,rfl⟩:=q4 (by omega)
  have hl:∀ x∈l,(wtC x).length=35:=fun x hx=>yb (h32 x hx)
  have ca:∀ w,Sat b F w→∀ j,j<35→w.cell? ⟨gA,oA+i*35+j,none⟩=(wtC l[i])[j]?:=fun w H j hj=>lr (f:=wtC) (ha w H) hl g1' hj
  have cb:∀ w,Sat b F w→∀ j,j<35→w.cell? ⟨gB,oB+i*35+j,none⟩=(wtC l[i])[j]?:=fun w H j hj=>lr (f:=wtC) (hb w H) hl g1' hj
  have hx:=h32 _ (List.getElem_mem g1')
  generalize l[i]=x at *
  have xl:=yb hx
  refine ao <| aa <| ae <| ar <| b7 flo _ (by decide +kernel) (Ent.refl _) <| ay Z Zl <| ay Z Zl <| dj Z Z (by omega) ?_
  refine fu Z (fun w H=>cn (cs:=wtC x) Z Z Z xl (fun j hj=>by rw [xl] at hj;rw [bi,Int.toNat_natCast];exact ca w H j hj)) Z Z ?_
  refine ay Z Zl <| ay Z Zl <| dj Z Z (by omega) ?_
  refine fu Z (fun w H=>cn (cs:=wtC x) Z Z Z xl (fun j hj=>by rw [xl] at hj;rw [bi,Int.toNat_natCast];exact cb w H j hj)) Z Z ?_
  refine qz Z (aaa Z Z (a35 hx)) Z Z <| ay Z Zl <| az <| ba <| aa <| ab <| af Z <| b5 Z (by (unfold I64;omega)) <| af Z <| ad ?_
  refine bj (i+1) ⟨rfl,rfl,rfl,rfl,trivial⟩ (Ent.refl _) (show i+1≤l.length by omega) (show l.length - (i+1)<l.length - i by omega)
 ·refine bu <| av <| ax <| au <| aa <| bd4 <| bgi Z Z <| bd3 <| aj <| ai Z (.tmp Z .nil) (Ent.refl _) ?_
  exact ⟨rfl,rfl⟩
end

def idA:List Int:=nx [97,98,99]
def om (id:List Int):Ev:=⟨2,1,nS,[0,0],1,⟨#[97]⟩,⟨#[]⟩,id,nS,[id]⟩
structure PX (id:List Int):Prop where
 ok:idOk id
 chk:qt (om id) 2 32=0
 dA:dg [97,98,99] 32=id
 nd:dg [97,98,100] 32≠id
 ne:nx []≠id
theorem a06:PX idA:=by
 have h:(nx [97,98,99]).length=32∧(nx [97,98,99]).all (fun x=>(Lit.int .u8 x).wf)=true∧qt (om (nx [97,98,99])) 2 32=0∧ot (nx [97,98,99]) 32=nx [97,98,99]∧ot (nx [97,98,100]) 32≠nx [97,98,99]∧nx []≠nx [97,98,99]:=by decide +kernel
 exact ⟨⟨h.1,fun x hx=>List.all_eq_true.1 h.2.1 x hx⟩,h.2.2.1,h.2.2.2.1,h.2.2.2.2.1,h.2.2.2.2.2⟩
theorem a36 {id:List Int} (h:PX id) (dv rv:Value):EW ((om id).own dv rv) :=
 ⟨h.ok,(show j8 (2,1) by decide),fun x hx=>by cases List.mem_singleton.1 hx;exact h.ok,(by show I64 1;unfold I64;omega),fun x hx=>by
  have:x=0:=by simpa [om,Ev.own] using hx
  subst this;unfold I64;omega,(by show (1:Nat)≤maxLen;decide),(by show (0:Nat)≤maxLen;decide)⟩
theorem a37 (id:List Int) (dv rv:Value):EvL ((om id).own dv rv):=⟨by show (2:Nat)≤_;decide,by show (1:Nat)≤_;decide,by show (1:Nat)≤_;decide,by show (0:Nat)≤_;decide⟩
section
variable {b:World} {F:List SP}
set_option maxRecDepth 20000 in
theorem a79:SC Tryz.prog uj [] b F (fun v F'=>∃ dv rv,v=evV ((om idA).own dv rv)∧F'=rZ dv [0,0]::rD rv [idA]::F):=by
 have h32:=a06.ok.1
 have hOf:∀ {F':List SP} {vb:Value},(∀ w,Sat b F' w→VL (Value.int .u8) w vb [97,98,99])→SC Tryz.prog amc [vb] b F' (fun v G=>v=idV idA∧G=F'):=fun h=>a49 (by decide) h
 generalize idA=id at h32 hOf ⊢
 refine bf Tryz.func20 Z Z Z <| bd4 <| ek Z Z Z Z Z fun g0=>a8r <| p5 ([97,98,99].map (Value.int .u8)) Z Z Z Z Z Z Z Z Z fun gl=>a14 0 Z Z Z Z Z Z Z Z <| bh Z Z Z (hOf (fun w H=>H.ptz_vl (k:=0) Z Z (Nat.le_refl _) (by omega) (fun j hj=>rfl))) ?_
 skip
 refine ek Z Z Z Z Z fun g1=> ?_
 refine im 0 Z Z Z Z Z Z Z (by rw [bg,h32];rfl) (dt _) (by simp [h32]) ?_
 refine a8r <| af Z <| p5 (ad1 [0,0]) Z Z Z Z Z Z Z Z Z fun gd=>dk 1 Z Z Z Z Z Z (ig h32) Z <| dk 1 Z Z Z Z Z Z (ig h32) Z ?_
 refine ky Z Z Z Z Z Z Z (by rw [bg,h32];rfl) (by decide) fun gr=> ?_
 refine a2l Z Z Z ⟨rfl,rfl,rfl,rfl,(by show (u8s _).length=_;rw [bg,h32];rfl),rfl,trivial⟩ ?_
 have yl:(evC ((om id).own (.slice (some ⟨gd,0,none⟩) 2 2) (.slice (some ⟨gr,0,none⟩) 1 1))).length=39:=cu h32
 have y1:=kj (e:=(om id).own (.slice (some ⟨gd,0,none⟩) 2 2) (.slice (some ⟨gr,0,none⟩) 1 1)) Z Z
 refine a9 10 (evV ((om id).own (.slice (some ⟨gd,0,none⟩) 2 2) (.slice (some ⟨gr,0,none⟩) 1 1))) Z Z ?_
 generalize hx:(om id).own (.slice (some ⟨gd,0,none⟩) 2 2) (.slice (some ⟨gr,0,none⟩) 1 1)=x at yl y1 ⊢
 refine im 4 Z Z Z Z Z Z Z yl y1 (by rw [yl];rfl) ?_
 refine bd3 <| aj ?_
 refine ai Z (.whole 4 Z Z Z Z (by rw [yl];rfl) .nil) ((iz (t:=t_api_ID) (sz:=32) (n:=1) (v:= .slice (some ⟨gr,0,none⟩) 1 1) Z (by rw [bg,h32]) (by decide) 0 Z Z).trans ((a3d (l:= [id]) 0 Z Z (by simp [et]) Z).trans ((iz (t:=fe) (sz:=1) (n:=2) (v:= .slice (some ⟨gd,0,none⟩) 2 2) Z Z (by decide) 1 Z Z).trans (ac 5 [1,0] Z Z)))) ?_
 exact ⟨.slice (some ⟨gd,0,none⟩) 2 2,.slice (some ⟨gr,0,none⟩) 1 1,by rw [hx];rfl,rfl⟩
variable {gg gq gs n:Nat} {w r:Int} {V:List Int} {L:List Wn} {X:BL} {C:CL} {d:Int × Int} {id:List Int} {s:ByteArray} {want:Bool} {err:Int}
set_option maxRecDepth 20000 in
theorem a38 (hC:CK C) (hR:RC' C) (hd:j8 d) (hid:idOk id) (hr:r≤67108864) (hs:s.size≤1000000) :
  SC Tryz.prog aa7 [.pointer (some ⟨gg,0,none⟩),ry d,idV id,.string s,.bool want,.int .i64 err] b (gat gg gq gs C::que gq n V L::sto gs w r X::F) (fun u F'=>u = .bool (decide (lh L C X d id (ef s) w r=want)&&decide (yf L X d id (ef s) w r=err))∧F'=gat gg gq gs (mz L C X d id (ef s) w r)::que gq n V L::sto gs w r (ol L X d id (ef s) w r)::F):=by
 have i32:=hid.1
 refine bf Tryz.func21 Z Z Z <| bd4 <| cq Z Z Z Z Z fun g7=>cq Z Z Z Z Z fun g8=>af Z <| a8r <| af Z <| df 1 Z Z Z <| dk 0 Z Z Z Z Z Z (ig i32) Z <| af Z <| a6d Z Z Z Z Z Z Z Z (by omega) fun g9 c9 cs hcs=> ?_
 refine bq Z Z Z ((a04 (gg:=gg) (gq:=gq) (gs:=gs) (n:=n) (w:=w) (r:=r) (V:=V) (L:=L) (X:=X) (C:=C) (d:=d) (id:=id) (xs:=ef s) (F:=ptz g9 pq (cs.length,cs.length+1) cs::pt g8 t_api_ID (u8s id)::pt g7 t_api_Dot [.int .i64 d.1,.int .i64 d.2]::F) hC hR hd hid hr (fun w H=>hcs _ w H) (a32 s) (by rw [jx];exact hs)).ent (ac 6 [3,4,5,0,1,2] Z Z)) ?_
 rintro _ _ ⟨rfl,rfl⟩
 (iterate 5 refine af Z ?_)
 refine a8r <| bgj Z Z Z <| af Z ?_
 by_cases hq:lh L C X d id (ef s) w r=want
 ·refine a9 27 (.bool true) Z (by rw [hq];cases want <;> rfl) ?_
  (iterate 5 refine af Z ?_)
  refine bd3 <| aj <| ai Z (.tmp Z .nil) (ac 6 [0,1,2] Z Z) ?_
  rw [decide_eq_true hq,Bool.true_and]
  exact ⟨rfl,rfl⟩
 ·refine a9 27 (.bool false) Z (by
   revert hq
   generalize lh L C X d id (ef s) w r=q
   cases q <;> cases want <;> intro hq <;> first | rfl | exact absurd Z hq) ?_
  (iterate 5 refine af Z ?_)
  refine bd3 <| aj <| ai Z (.tmp Z .nil) (ac 6 [0,1,2] Z Z) ?_
  rw [decide_eq_false hq,Bool.false_and]
  exact ⟨rfl,rfl⟩
set_option maxRecDepth 20000 in
theorem a07 {n:Nat} (h1:1≤n) (h2:n≤16) (hw:ah2 w r):SC Tryz.prog abt [.int .i64 n,.int .i64 w,.int .i64 r,.slice none 0 0] b F (fun v F'=>∃ gg gq gs,v = .tuple ⟨[.pointer (some ⟨gg,0,none⟩),.pointer (some ⟨gq,0,none⟩),.pointer (some ⟨gs,0,none⟩)]⟩∧F'=gat gg gq gs []::que gq n (List.replicate n 0) []::sto gs w r []::F):=by
 refine bf Tryz.func19 Z Z Z <| bd4 <| bgj Z Z Z <| a8r <| af Z <| bq Z Z Z (a5l h1 h2) ?_
 rintro _ _ ⟨gq,rfl,rfl⟩
 (iterate 5 refine af Z ?_)
 refine a8r <| bgi Z Z <| bq Z Z Z (avj hw) ?_
 rintro _ _ ⟨gs,rfl,rfl⟩
 (iterate 5 refine af Z ?_)
 refine bd3 <| ae <| bd4 ?_
 (iterate 14 refine af Z ?_)
 refine bd3 <| al Z <| ao <| aa <| ae <| bd4 <| af Z <| bd3 <| ar <| b6 (S:=Unit) (fun _=> [(1,.int .i64 w),(3,.slice none 0 0),(11,.pointer (some ⟨gq,0,none⟩)),(13,.pointer (some ⟨gs,0,none⟩)),(15,.int .i64 0)]) (fun _=>_) (fun _=>True) (fun _=>0) () ⟨rfl,rfl,rfl,rfl,rfl,trivial⟩ (Ent.refl _) trivial ?_
 rintro ⟨⟩ _
 refine ae <| bd4 <| bgj Z Z Z <| af Z <| bd3 <| al Z <| bu <| av <| ax <| au <| aa <| bd4 <| bgi Z Z ?_
 refine bq Z Z Z ((a5m (V:=List.replicate n 0) (L:= []) (X:= []) (w:=w) (r:=r) (n:=n) (by rw [List.length_replicate];omega) (by have:=hw.1;omega)).ent (ac 2 [1,0] Z Z)) ?_
 rintro _ _ ⟨gg,rfl,rfl⟩
 (iterate 5 refine af Z ?_)
 refine bd3 <| ae <| bd4 <| bgi Z Z <| bd3 <| al Z <| ao <| aa <| bd4 ?_
 (iterate 6 refine af Z ?_)
 refine bd3 <| aj <| ai Z (.tmp Z (.tmp Z (.tmp Z .nil))) (Ent.refl _) ?_
 exact ⟨gg,gq,gs,rfl,rfl⟩
end
section
variable {b:World} {F:List SP} {l:List Ev} {v:Value}
set_option maxRecDepth 20000 in
set_option maxHeartbeats 4000000 in
theorem agf {va vb:Value} {l m:List Ev} (h:l.map nE=m.map nE) (ha:∀ w,Sat b F w→EL w va l) (hb:∀ w,Sat b F w→EL w vb m) (h32:∀ x∈l,x.id.length=32∧fw x.refs∧x.refs.length≤1000000) :
  SC Tryz.prog yn [va,vb] b F (fun v F'=>v = .bool true∧F'=F):=by
 have hl:l.length=m.length:=by have:=congrArg List.length h;rwa [List.length_map,List.length_map] at this
 have hA32:∀ x∈l,x.id.length=32:=fun x hx=>(h32 x hx).1
 have hB32:∀ x∈m,x.id.length=32:=fun x hx=>by
  have:nE x∈l.map nE:=by rw [h];exact List.mem_map_of_mem hx
  obtain ⟨y,hy,hyx⟩:=List.mem_map.1 this
  rw [← show (nE y).id=x.id by rw [hyx];rfl];exact (h32 y hy).1
 refine bf Tryz.func35 Z Z Z <| bt (fun w H=>du (ha w H).sl) ?_
 rintro ⟨A,c,rfl,_,_,_,k4,_⟩
 refine bt (fun w H=>du (hb w H).sl) ?_
 rintro ⟨B,c2,rfl,_,_,_,k5,_⟩
 refine bd4 <| af Z <| a8r ?_
 (iterate 6 refine af Z ?_)
 refine bd3 <| ae <| bd4 <| af Z <| bd3 <| ar <| cm 5 (.bool true) Z (congrArg Value.bool (decide_eq_true (by omega))) <| b6 (S:=Nat) (fun i=> [(0,.slice A l.length c),(1,.slice B m.length c2),(5,.bool true),(6,.int .i64 (i:Int))]) (fun _=>F) (fun i=>i≤l.length) (fun i=>l.length - i) 0 ⟨rfl,rfl,rfl,rfl,trivial⟩ (Ent.refl _) (Nat.zero_le _) ?_
 intro i hi
 refine ae <| bd4 ?_
 (iterate 7 refine af Z ?_)
 refine bd3 ?_
 refine di Z (fun h1=> ?_) (fun h1=> ?_)
 ·have h1':i<l.length:=by omega
  have h2':i<m.length:=by omega
  obtain ⟨g1,o1,rfl⟩:=k4 (by omega)
  obtain ⟨g2,o2,rfl⟩:=k5 (by omega)
  have hxy:nE l[i]=nE m[i]:=by
   have:=congrArg (·[i]?) h
   simpa [h1',h2'] using this
  have hc1:∀ w,Sat b F w→∀ j,j<39→w.cell? ⟨g1,o1+i*39+j,none⟩=(evC l[i])[j]?:=fun w H j hj=>au4 (ha w H) hA32 h1' hj
  have hc2:∀ w,Sat b F w→∀ j,j<39→w.cell? ⟨g2,o2+i*39+j,none⟩=(evC m[i])[j]?:=fun w H j hj=>au4 (hb w H) hB32 h2' hj
  have he1:∀ w,Sat b F w→ER w l[i]:=fun w H=>(ha w H).er _ (List.getElem_mem h1')
  have he2:∀ w,Sat b F w→ER w m[i]:=fun w H=>(hb w H).er _ (List.getElem_mem h2')
  obtain ⟨x32,xr,xn⟩:=h32 _ (List.getElem_mem h1')
  have y32:=hB32 _ (List.getElem_mem h2')
  generalize l[i]=x at *
  generalize m[i]=y at *
  have xl:=cu x32
  have yl:=cu y32
  refine ao <| aa <| ae <| ar <| b7 flo F (by decide +kernel) (Ent.refl _) <| ay Z Zl <| ay Z Zl <| dj Z Z (by omega) ?_
  refine fu Z (fun w H=>cn (cs:=evC x) Z Z Z xl (fun j hj=>by rw [bi,Int.toNat_natCast];exact hc1 w H j (by rw [xl] at hj;exact hj))) Z Z ?_
  refine ay Z Zl <| ay Z Zl <| dj Z Z (by omega) ?_
  refine fu Z (fun w H=>cn (cs:=evC y) Z Z Z yl (fun j hj=>by rw [bi,Int.toNat_natCast];exact hc2 w H j (by rw [yl] at hj;exact hj))) Z Z ?_
  refine cz Z Z Z Z ((ah3 hxy he1 he2 x32 xr xn)) (Ent.refl _) <| ay Z Zl <| az <| ba <| aa <| ab <| af Z <| b5 Z (by (unfold I64;omega)) <| af Z <| ad ?_
  rw [show (i:Int)+1=((i+1:Nat):Int) by omega]
  exact bj (i+1) ⟨rfl,rfl,rfl,rfl,trivial⟩ (Ent.refl _) h1' (by omega)
 ·refine bu <| av <| ax <| au <| aa <| bd4 <| bgi Z Z <| bd3 <| aj <| ai Z (.tmp Z .nil) (Ent.refl _) ?_
  exact ⟨rfl,rfl⟩
end

abbrev L1 (id:List Int):List Wn:= [⟨0,om id,2⟩]
abbrev C1 (id:List Int):CL:= [((2,1),[id])]
def bdz:ByteArray:=⟨#[97,98,99]⟩
theorem a8a {id:List Int} (h:PX id) (dv rv:Value):aa1 [0,0] [] 32 ((om id).own dv rv) 2=true∧acs [0,0] [] 32 ((om id).own dv rv) 2=0∧qe [0,0] [] 32 ((om id).own dv rv) 2=L1 id:=by
 have hc:qt ((om id).own dv rv) (([0,0]:List Int).length:Int) 32=0:=h.chk
 refine ⟨?_,?_,?_⟩
 ·rw [aa1,if_pos hc];rfl
 ·rw [acs,if_pos hc];rfl
 ·rw [qe,if_pos hc];rfl
theorem ak6 {id:List Int}:ir (L1 id) [] = [⟨(2,1),id,2⟩]:=by simp [ir,ly,cfm,om]
theorem axi {id:List Int}:gz [0,0] (L1 id) [] = []:=rfl
theorem axj {id:List Int}:gz [0,0] (L1 id) (C1 id) = [(2,1)]:=rfl
theorem a8b {id:List Int}:pw [0,0] (L1 id) (C1 id)=([om id],[0,1],[],[]):=rfl
theorem a8c:ef bdz = [97,98,99]:=rfl
theorem a39 {id:List Int} (h:PX id):lh (L1 id) [] [] (2,1) id [97,98,99] 32 100=true∧yf (L1 id) [] (2,1) id [97,98,99] 32 100=0∧mz (L1 id) [] [] (2,1) id [97,98,99] 32 100=C1 id:=by
 have hr:ahk (L1 id) (2,1) id=true:=decide_eq_true (by simp [om])
 have hp:pi [] id [97,98,99] 32 100=0:=by
  rw [pi,if_neg (by decide),if_pos h.dA];rfl
 have hB:lh (L1 id) [] [] (2,1) id [97,98,99] 32 100=true:=by rw [lh,hr,hp];rfl
 refine ⟨hB,?_,?_⟩
 ·rw [yf,if_neg (show ¬ ((jc (2,1) (L1 id)).isNone=true) from fun h=>(by cases h)),if_neg (by rw [hr];decide),hp]
 ·rw [mz,if_pos hB];rfl
theorem atx:CK []:=fun d=>⟨fun x h=>(by cases h),(by show (0:Nat)≤_;decide)⟩
theorem a8d:RC' []:=fun d=>List.Pairwise.nil
section
variable {b:World} {F:List SP}
set_option maxRecDepth 20000 in
set_option maxHeartbeats 8000000 in
theorem am3:SC Tryz.prog aa6 [] b F (fun v F'=>v = .bool true∧F'=F):=by
 have hx:=a06
 have hpush:∀ {F':List SP},SC Tryz.prog uj [] b F' (fun v G=>∃ dv rv,v=evV ((om idA).own dv rv)∧G=rZ dv [0,0]::rD rv [idA]::F'):=a79
 generalize idA=id at hx hpush
 have h32:=hx.ok.1
 refine bf Tryz.func9 Z Z Z <| bd4 <| af Z <| a8r ?_
 refine bq Z Z Z (a07 (n:=2) (w:=32) (r:=100) (by decide) (by decide) (by unfold ah2;omega)) ?_
 rintro _ _ ⟨gg,gq,gs,rfl,rfl⟩
 (iterate 7 refine af Z ?_)
 refine bd3 <| ae <| bd4 <| bgi Z Z <| bd3 <| al Z <| ao <| aa <| bd4 <| bq Z Z Z (hpush) ?_
 rintro _ _ ⟨dv,rv,rfl,rfl⟩
 refine b9 (fun w H=>(H.oat (k:=0) Z).form) ?_
 rintro ⟨A1,c1,rfl,_,_,_⟩
 refine b9 (fun w H=>(H.oat (k:=1) Z).form) ?_
 rintro ⟨A2,c2,rfl,_,_,_⟩
 generalize hye:(om id).own (.slice A1 ([0,0]:List Int).length c1) (.slice A2 [id].length c2)=e
 have e32:e.id.length=32:=by rw [← hye];exact h32
 have eid:e.id=id:=by rw [← hye];rfl
 have edv:e.dv = .slice A1 ([0,0]:List Int).length c1:=by rw [← hye];rfl
 have erv:e.rv = .slice A2 [id].length c2:=by rw [← hye];rfl
 have yl:(evC e).length=39:=cu e32
 have y1:=kj (e:=e) (by rw [edv];rfl) (by rw [erv];rfl)
 refine ek Z Z Z Z Z fun g4=> ?_
 refine im 0 Z Z Z Z Z Z Z yl y1 (by rw [yl];rfl) ?_
 refine a8r <| af Z ?_
 refine dk 0 Z Z Z Z Z Z (fd (by rw [yl];rfl)) Z ?_
 have hew:=a36 hx (.slice A1 ([0,0]:List Int).length c1) (.slice A2 [id].length c2)
 have hel:=a37 id (.slice A1 ([0,0]:List Int).length c1) (.slice A2 [id].length c2)
 obtain ⟨a1,a2,a3⟩:=a8a hx (.slice A1 ([0,0]:List Int).length c1) (.slice A2 [id].length c2)
 rw [hye] at hew hel a1 a2 a3
 have hdl:e.deps.length≤1000000:=by rw [← hye];show (2:Nat)≤_;decide
 have hrl:e.refs.length≤1000000:=by rw [← hye];show (1:Nat)≤_;decide
 have her:∀ w,Sat b (pt g4 bo (evC e)::rZ (.slice A1 ([0,0]:List Int).length c1) [0,0]::rD (.slice A2 [id].length c2) [id]::F) w→ER w e:=fun w H=>by
  rw [← hye];exact ⟨vlZ (k:=1) Z w H,(H.oat (k:=2) Z).sl⟩
 refine bq Z Z Z ((a5n (gg:=gg) (gq:=gq) (gs:=gs) (n:=2) (w:=32) (r:=100) (V:= [0,0]) (L:= []) (X:= []) (C:= []) (e:=e) (s:=2) (F:=pt g4 bo (evC e)::rZ (.slice A1 ([0,0]:List Int).length c1) [0,0]::rD (.slice A2 [id].length c2) [id]::F) her hew hel hdl hrl).ent (ac 6 [3,4,5,0,1,2] Z Z)) ?_
 rw [a1,a2,a3]
 rintro _ _ ⟨rfl,rfl⟩
 (iterate 5 refine af Z ?_)
 refine bd3 <| ae <| ae <| aus flo (OT.pre (List.range' 0 8) (.two 8 [9,10,11,12,13] 14 (OT.pre (List.range' 15 9) .nil))) (pt g4 bo (evC e)::F) (by decide +kernel) (ac 6 [3] Z Z) <| mg 0 8 _ Z Z ?_
 (iterate 8 refine ay Z Zl ?_)
 refine az <| ac3 (ac 6 [3] Z Z) ?_
 have hdt:(.int .i64 e.r:Value) = .int .i64 2∧(.int .i64 e.n:Value) = .int .i64 1:=by rw [← hye];exact ⟨rfl,rfl⟩
 have hWl:(ir (L1 id) []).length≤60000000:=by rw [ak6];show (1:Nat)≤_;decide
 have wl:(wtC ⟨(2,1),id,2⟩).length=35:=yb h32
 refine anz (S':=Option Addr × Nat × Nat) (fun s=> [(1,.pointer (some ⟨gg,0,none⟩)),(4,.pointer (some ⟨g4,0,none⟩)),(27,.bool false),(29,.slice s.1 1 s.2.1),(35,.slice (some ⟨s.2.2,0,none⟩) 1 1)])
  (fun s=>pt s.2.2 t_api_Want (wtC ⟨(2,1),id,2⟩)::rWt s.1 s.2.1 1 [⟨(2,1),id,2⟩]::gat gg gq gs []::que gq 2 [0,0] (L1 id)::sto gs 32 100 []::pt g4 bo (evC e)::rZ (.slice A1 ([0,0]:List Int).length c1) [0,0]::rD (.slice A2 [id].length c2) [id]::F) (fun _=>True) (fun s _=>ac 8 [5] Z Z) (fun J=> ?_) (fun J=> ?_) ?_
 ·refine mg 8 7 _ Z Z <| dz Z Z Z Z (ao0 atx hWl) ?_
  rw [ak6]
  rintro _ _ ⟨A3,c3,rfl,rfl⟩
  refine ⟨ac 7 [4] Z rfl,(ay Z Zl <| de 0 Z Z Z Z <| ay Z Zl <| jm 0 Z Z Z Z Z Z (xk e32) Z Z ?_)⟩
  refine b4 31 (.agg ⟨[.int .i64 2,.int .i64 1]⟩) Z (by rw [hdt.1,hdt.2]) ?_
  refine b4 33 (idV id) Z (by rw [eid]) ?_
  skip
  refine a6g Z Z Z Z ⟨rfl,(by show (u8s id).length=32;rw [bg,h32]),rfl,trivial⟩ ?_
  refine n9 (cs:=wtC ⟨(2,1),id,2⟩) Z Z Z Z Z Z Z Z wl (by decide) (ac 7 [4] Z Z) fun gl=>az ?_
  exact J (A3,c3,gl) _ _ trivial ⟨rfl,rfl,rfl,rfl,rfl,trivial⟩ (Ent.refl _)
 ·refine mg 9 6 _ Z Z <| ay Z Zl <| de 0 Z Z Z Z <| ay Z Zl <| jm 0 Z Z Z Z Z Z (xk e32) Z Z ?_
  refine b4 31 (.agg ⟨[.int .i64 2,.int .i64 1]⟩) Z (by rw [hdt.1,hdt.2]) ?_
  refine b4 33 (idV id) Z (by rw [eid]) ?_
  skip
  refine a6g Z Z Z Z ⟨rfl,(by show (u8s id).length=32;rw [bg,h32]),rfl,trivial⟩ ?_
  refine n9 (cs:=wtC ⟨(2,1),id,2⟩) Z Z Z Z Z Z Z Z wl (by decide) (ac 6 [3] Z Z) fun gl=>az <| ac3 (ac 7 [4] Z Z) <| mg 8 1 _ Z Z <| dz Z Z Z Z ((ao0 (gg:=gg) (gq:=gq) (gs:=gs) (n:=2) (V:= [0,0]) (L:=L1 id) (C:= []) (F:=pt gl t_api_Want (wtC ⟨(2,1),id,2⟩)::sto gs 32 100 []::pt g4 bo (evC e)::rZ (.slice A1 ([0,0]:List Int).length c1) [0,0]::rD (.slice A2 [id].length c2) [id]::F) atx hWl).ent (ac 7 [1,2,0,3,4,5,6] Z Z)) ?_
  rw [ak6]
  rintro _ _ ⟨A3,c3,rfl,rfl⟩
  refine ⟨ac 8 [5] Z rfl,(az ?_)⟩
  exact J (A3,c3,gl) _ _ trivial ⟨rfl,rfl,rfl,rfl,rfl,trivial⟩ (ac 8 [3,0,1,2,4,5,6,7] Z Z)
 rintro ⟨A3,c3,gl⟩ _
 dsimp only
 refine mg 15 9 _ Z Z ?_
 have e1:flC wtC [⟨(2,1),id,2⟩]=wtC ⟨(2,1),id,2⟩:=by simp only [flC,List.append_nil]
 refine cz Z Z Z Z (ah9 (l:= [⟨(2,1),id,2⟩]) (fun w H=>(H.oat (k:=1) Z).sl) (fun w H=>by rw [e1];exact (H.blk (k:=0) Z).sl (by rw [wl]) (by decide)) (fun x hx=>by cases List.mem_singleton.1 hx;exact h32) (by show (1:Nat)≤_;decide)) (ac 8 [5] Z Z) ?_
 refine ay Z Zl <| ay Z Zl <| ay Z Zl <| ay Z Zl <| dz Z Z Z Z ((aoz (gg:=gg) (gq:=gq) (gs:=gs) (n:=2) (V:= [0,0]) (L:=L1 id) (C:= []) (F:=sto gs 32 100 []::pt g4 bo (evC e)::rZ (.slice A1 ([0,0]:List Int).length c1) [0,0]::rD (.slice A2 [id].length c2) [id]::F)).ent (ac 8 [2,3,4,5,6,7] Z Z)) ?_
 rw [axi]
 rintro _ _ ⟨A5,c5,rfl,rfl⟩
 refine ⟨ac 7 [4] Z rfl,(ay Z Zl <| ay Z Zl <| ay Z Zl <| az <| vp <| aa <| al Z <| ao <| aa <| ae ?_)⟩
 obtain ⟨s1,s2,s3⟩:=a39 hx
 have hsh:=a38 (b:=b) (gg:=gg) (gq:=gq) (gs:=gs) (n:=2) (w:=32) (r:=100) (V:= [0,0]) (L:=L1 id) (X:= []) (C:= []) (d:=(2,1)) (id:=id) (s:=bdz) (want:=true) (err:=0) (F:=rO A5 c5 0 []::pt g4 bo (evC e)::rZ (.slice A1 ([0,0]:List Int).length c1) [0,0]::rD (.slice A2 [id].length c2) [id]::F) atx a8d (by decide) hx.ok (by decide) (by decide)
 rw [a8c,s1,s2,s3] at hsh
 generalize ol (L1 id) [] (2,1) id [97,98,99] 32 100=X1 at hsh
 refine aus flo (OT.pre (List.range' 0 8) (.two 8 [9,10] 11 (OT.pre (List.range' 12 4) (.two 16 [17] 18 (OT.pre (List.range' 19 3) .nil))))) (pt g4 bo (evC e)::F) (by decide +kernel) (ac 7 [4] Z Z) <| mg 0 8 _ Z Z <| ay Z Zl <| ay Z Zl <| de 0 Z Z Z Z <| ay Z Zl <| jm 0 Z Z Z Z Z Z (xk e32) Z Z ?_
 refine b4 47 (.agg ⟨[.int .i64 2,.int .i64 1]⟩) Z (by rw [hdt.1,hdt.2]) ?_
 refine b4 49 (idV id) Z (by rw [eid]) ?_
 skip
 refine dz Z Z Z Z (hsh.ent (ac 7 [1,2,3,0,4,5,6] Z Z)) ?_
 rintro _ _ ⟨rfl,rfl⟩
 refine ⟨ac 7 [4] Z rfl,(b4 50 (.bool true) Z Z <| ay Z Zl <| ay Z Zl <| az <| ac3 (ac 7 [4] Z Z) ?_)⟩
 have hRd:∀ {F9:List SP},SC Tryz.prog u9 [.pointer (some ⟨gg,0,none⟩)] b (gat gg gq gs (C1 id)::que gq 2 [0,0] (L1 id)::F9) (fun u F'=>∃ A c,u = .slice A 1 c∧F'=rO A c 1 [(2,1)]::gat gg gq gs (C1 id)::que gq 2 [0,0] (L1 id)::F9):=fun {F9}=>by
  have:=aoz (b:=b) (F:=F9) (gg:=gg) (gq:=gq) (gs:=gs) (n:=2) (V:= [0,0]) (L:=L1 id) (C:=C1 id)
  rwa [axj] at this
 have hDl:∀ {F9:List SP},SC Tryz.prog sp [.pointer (some ⟨gg,0,none⟩)] b (gat gg gq gs (C1 id)::que gq 2 [0,0] (L1 id)::F9) (fun u F'=>∃ A c D,D.map nE = [om id]∧u = .slice A D.length c∧F'=rEn A c D.length D::all (evF D)::gat gg gq gs []::que gq 2 [0,1] []::F9):=fun {F9}=>by
  have:=am0 (b:=b) (F:=F9) (gg:=gg) (gq:=gq) (gs:=gs) (n:=2) (V:= [0,0]) (L:=L1 id) (C:=C1 id)
  rwa [a8b] at this
 refine anz (S':=Option Addr × Nat × Nat) (fun s=> [(1,.pointer (some ⟨gg,0,none⟩)),(4,.pointer (some ⟨g4,0,none⟩)),(51,.bool true),(53,.slice s.1 1 s.2.1),(56,.slice (some ⟨s.2.2,0,none⟩) 1 1)])
  (fun s=>pt s.2.2 t_api_Dot [.int .i64 2,.int .i64 1]::rO s.1 s.2.1 1 [(2,1)]::gat gg gq gs (C1 id)::que gq 2 [0,0] (L1 id)::pt g4 bo (evC e)::rZ (.slice A1 ([0,0]:List Int).length c1) [0,0]::rD (.slice A2 [id].length c2) [id]::F) (fun _=>True) (fun s _=>ac 7 [4] Z Z) (fun J=> ?_) (fun J=> ?_) ?_
 ·refine mg 8 4 _ Z Z <| dz Z Z Z Z hRd ?_
  rintro _ _ ⟨A6,c6,rfl,rfl⟩
  refine ⟨ac 8 [5] Z rfl,(ay Z Zl <| de 0 Z Z Z Z ?_)⟩
  refine b4 55 (.agg ⟨[.int .i64 2,.int .i64 1]⟩) Z (by rw [hdt.1,hdt.2]) ?_
  refine n9 (cs:= [.int .i64 2,.int .i64 1]) Z Z Z Z Z Z Z Z Z (by decide) (ac 8 [5] Z Z) fun gl2=>az ?_
  exact J (A6,c6,gl2) _ _ trivial ⟨rfl,rfl,rfl,rfl,rfl,trivial⟩ (ac 9 [0,1,2,3,6,7,8] Z Z)
 ·refine mg 9 3 _ Z Z <| ay Z Zl <| de 0 Z Z Z Z ?_
  refine b4 55 (.agg ⟨[.int .i64 2,.int .i64 1]⟩) Z (by rw [hdt.1,hdt.2]) ?_
  refine n9 (cs:= [.int .i64 2,.int .i64 1]) Z Z Z Z Z Z Z Z Z (by decide) (ac 7 [4] Z Z) fun gl2=>az <| ac3 (ac 8 [5] Z Z) <| mg 8 1 _ Z Z <| dz Z Z Z Z (hRd.ent (ac 8 [1,2,0,3,4,5,6,7] Z Z)) ?_
  rintro _ _ ⟨A6,c6,rfl,rfl⟩
  refine ⟨ac 9 [6] Z rfl,(az ?_)⟩
  exact J (A6,c6,gl2) _ _ trivial ⟨rfl,rfl,rfl,rfl,rfl,trivial⟩ (ac 9 [3,0,1,2,6,7,8] Z Z)
 rintro ⟨A6,c6,gl2⟩ _
 dsimp only
 refine mg 12 4 _ Z Z ?_
 refine cz Z Z Z Z (akk (l:= [(2,1)]) (fun w H=>(H.oat (k:=1) Z).sl) (fun w H=>(H.blk (k:=0) Z).sl Z (by decide)) (by show (1:Nat)≤_;decide)) (ac 7 [4] Z Z) ?_
 refine ay Z Zl <| ay Z Zl <| ay Z Zl <| az <| ac3 (ac 7 [4] Z Z) ?_
 refine anz (S':=Option Addr × Nat × List Ev × Nat) (fun s=> [(59,.bool true),(61,.slice s.1 s.2.2.1.length s.2.1),(63,.slice (some ⟨s.2.2.2,0,none⟩) 1 1)])
  (fun s=>pt s.2.2.2 bo (evC e)::rEn s.1 s.2.1 s.2.2.1.length s.2.2.1::all (evF s.2.2.1)::pt g4 bo (evC e)::rZ (.slice A1 ([0,0]:List Int).length c1) [0,0]::rD (.slice A2 [id].length c2) [id]::F) (fun s=>s.2.2.1.map nE = [om id]) (fun s _=>ac 6 [3] Z Z) (fun J=> ?_) (fun J=> ?_) ?_
 ·refine mg 16 3 _ Z Z <| dz Z Z Z Z (hDl.ent (ac 7 [2,3,4,5,6] Z Z)) ?_
  rintro _ _ ⟨A7,c7,D,hD,rfl,rfl⟩
  refine ⟨ac 7 [4] Z rfl,?_⟩
  refine jm 0 Z Z Z Z Z Z (fd (by rw [yl];rfl)) Z Z ?_
  refine n9 (cs:=evC e) Z Z Z Z Z Z Z Z yl (by decide) (ac 7 [4] Z Z) fun gl3=>az ?_
  exact J (A7,c7,D,gl3) _ _ hD ⟨rfl,rfl,rfl,trivial⟩ (ac 8 [0,1,2,5,6,7] Z Z)
 ·refine mg 17 2 _ Z Z ?_
  refine jm 0 Z Z Z Z Z Z (fd (by rw [yl];rfl)) Z Z ?_
  refine n9 (cs:=evC e) Z Z Z Z Z Z Z Z yl (by decide) (ac 7 [4] Z Z) fun gl3=>az <| ac3 (ac 8 [5] Z Z) <| mg 16 1 _ Z Z <| dz Z Z Z Z (hDl.ent (ac 8 [3,4,0,5,6,7] Z Z)) ?_
  rintro _ _ ⟨A7,c7,D,hD,rfl,rfl⟩
  refine ⟨ac 8 [5] Z rfl,(az ?_)⟩
  exact J (A7,c7,D,gl3) _ _ hD ⟨rfl,rfl,rfl,trivial⟩ (ac 8 [4,0,1,5,6,7] Z Z)
 rintro ⟨A7,c7,D,gl3⟩ hD
 dsimp only at hD ⊢
 refine mg 19 3 _ Z Z ?_
 have hne:nE e=om id:=by rw [← hye];rfl
 have hDl1:D.length=1:=by have:=congrArg List.length hD;simpa using this
 have hDx:∀ x∈D,x.id.length=32∧fw x.refs∧x.refs.length≤1000000:=fun x hx'=>by
  have h1:nE x∈ [om id]:=by rw [← hD];exact List.mem_map.2 ⟨x,hx',rfl⟩
  have h2:=List.mem_singleton.1 h1
  have h3:x.id=id:=congrArg Ev.id h2
  have h4:x.refs = [id]:=congrArg Ev.refs h2
  rw [h3,h4]
  exact ⟨h32,fun a ha=>(by cases List.mem_singleton.1 ha;exact h32),(by show (1:Nat)≤_;decide)⟩
 refine cz Z Z Z Z (agf (l:=D) (m:= [e]) (by rw [hD,List.map_cons,List.map_nil,hne]) (atg (k:=1) (j:=2) Z Z) (fun w H=>⟨by
  have e2:ag9 [e]=evC e:=by simp [flC]
  rw [e2];exact (H.blk (k:=0) Z).sl (by rw [yl]) (by simp),fun m hm=>by
  rw [List.mem_singleton.1 hm,← hye];exact ⟨vlZ (k:=4) Z w H,(H.oat (k:=5) Z).sl⟩⟩) hDx) (ac 6 [3] Z Z) ?_
 refine ay Z Zl <| ay Z Zl <| az <| vp <| aa <| aj <| ai Z (.tmp Z .nil) (ac 6 [] Z Z) ?_
 exact ⟨rfl,rfl⟩
end

structure CLr (w:World) (v:Value) (T:List Pf):Prop where
 sl:SL w 3 v T.length (flC cfC T)
 er:∀ e∈T,SL w 32 e.v e.ids.length (et e.ids)
section
variable {b:World} {F:List SP}
theorem a08 {A:Option Addr} {c k j:Nat} {T:List Pf} (hk:nth F k=some (rCn A c T.length T)) (hj:nth F j=some (all (pF T))):∀ w,Sat b F w→CLr w (.slice A T.length c) T:=fun w H=>⟨(H.oat hk).sl,fun _ he=>yr hj he w H⟩
set_option maxRecDepth 20000 in
set_option maxHeartbeats 4000000 in
theorem aij {va vb:Value} {T U:List Pf} (h:prf T=prf U) (ha:∀ w,Sat b F w→CLr w va T) (hb:∀ w,Sat b F w→CLr w vb U) (h32:∀ e∈T,fw e.ids) (hm:T.length≤67108864):SC Tryz.prog vq [va,vb] b F (fun v F'=>v = .bool true∧F'=F):=by
 have hlen:T.length=U.length:=by have:=congrArg List.length h;rwa [prf,prf,List.length_map,List.length_map] at this
 refine bf Tryz.func23 Z Z Z <| bt (fun w H=>du (ha w H).sl) ?_
 rintro ⟨A,c,rfl,h1,h2,h3,h4,_⟩
 refine bt (fun w H=>du (hb w H).sl) ?_
 rintro ⟨B,d,rfl,q1,q2,q3,q4,_⟩
 refine bd4 <| af Z <| a8r ?_
 (iterate 6 refine af Z ?_)
 refine bd3 <| ae <| bd4 <| af Z <| bd3 <| ar <| cm 5 (.bool true) Z (congrArg Value.bool (decide_eq_true (by omega))) <| b6 (S:=Nat) (fun i=> [(0,.slice A T.length c),(1,.slice B U.length d),(5,.bool true),(6,.int .i64 (i:Int))]) (fun _=>F) (fun i=>i≤T.length) (fun i=>T.length - i) 0 ⟨rfl,rfl,rfl,rfl,trivial⟩ (Ent.refl _) (Nat.zero_le _) ?_
 intro i hi
 refine ae <| bd4 ?_
 (iterate 7 refine af Z ?_)
 refine bd3 ?_
 refine di Z (fun g1=> ?_) (fun g1=> ?_)
 ·have g1':i<T.length:=by omega
  have g2':i<U.length:=by omega
  obtain ⟨gA,oA,rfl⟩:=h4 (by omega)
  obtain ⟨gB,oB,rfl⟩:=q4 (by omega)
  have ml:=List.getElem_mem g1'
  have mm:=List.getElem_mem g2'
  have ca:∀ w,Sat b F w→∀ j,j<3→w.cell? ⟨gA,oA+i*3+j,none⟩=(cfC T[i])[j]?:=fun w H j hj=>lr (f:=cfC) (ha w H).sl (fun _ _=>rfl) g1' hj
  have cb:∀ w,Sat b F w→∀ j,j<3→w.cell? ⟨gB,oB+i*3+j,none⟩=(cfC U[i])[j]?:=fun w H j hj=>lr (f:=cfC) (hb w H).sl (fun _ _=>rfl) g2' hj
  have ea:∀ w,Sat b F w→SL w 32 T[i].v T[i].ids.length (et T[i].ids):=fun w H=>(ha w H).er _ ml
  have eb:∀ w,Sat b F w→SL w 32 U[i].v U[i].ids.length (et U[i].ids):=fun w H=>(hb w H).er _ mm
  have heq:(T[i].d,T[i].ids)=(U[i].d,U[i].ids):=by
   have:=congrArg (·[i]?) h
   simpa [prf,g1',g2'] using this
  have hx32:=h32 _ ml
  generalize T[i]=x at *
  generalize U[i]=y at *
  have hd:x.d=y.d:=congrArg Prod.fst heq
  have hids:x.ids=y.ids:=congrArg Prod.snd heq
  refine ao <| aa <| ae <| ar <| b7 flo _ (by decide +kernel) (Ent.refl _) <| ay Z Zl <| ay Z Zl <| dj Z Z (by omega) <| ay Z Zl ?_
  refine fu Z (fun w H=>cn (cs:=dC x.d) Z Z Z Z (fun j hj=>by rw [bi,Int.toNat_natCast];exact (ca w H j (Nat.lt_of_lt_of_le hj (by show (2:Nat)≤3;decide))).trans (by match j,hj with | 0,_=>rfl | 1,_=>rfl))) Z Z ?_
  refine ay Z Zl <| ay Z Zl <| dj Z Z (by omega) <| ay Z Zl ?_
  refine fu Z (fun w H=>cn (cs:=dC y.d) Z Z Z Z (fun j hj=>by rw [bi,Int.toNat_natCast];exact (cb w H j (Nat.lt_of_lt_of_le hj (by show (2:Nat)≤3;decide))).trans (by match j,hj with | 0,_=>rfl | 1,_=>rfl))) Z Z ?_
  refine qz Z (aaa Z Z (yq _ _ _ _)) Z Z ?_
  refine b4 31 (.bool true) Z (congrArg Value.bool (decide_eq_true ⟨by rw [hd],by rw [hd]⟩)) ?_
  refine ay Z Zl <| ay Z Zl <| ay Z Zl <| dj Z Z (by omega) <| ay Z Zl ?_
  refine fu Z (fun w H=>bm Z Z Z (by rw [bi,Int.toNat_natCast];exact ca w H 2 (by decide))) Z Z ?_
  refine ay Z Zl <| ay Z Zl <| dj Z Z (by omega) <| ay Z Zl ?_
  refine fu Z (fun w H=>bm Z Z Z (by rw [bi,Int.toNat_natCast];exact cb w H 2 (by decide))) Z Z ?_
  refine cz Z Z Z Z (aw6 ea eb hx32 (by rw [← hids];exact hx32)) (Ent.refl _) ?_
  rw [decide_eq_true hids]
  refine ay Z Zl <| ay Z Zl <| az <| ba <| aa <| ab <| af Z <| b5 Z (by (unfold I64;omega)) <| af Z <| ad ?_
  refine bj (i+1) ⟨rfl,rfl,rfl,rfl,trivial⟩ (Ent.refl _) (show i+1≤T.length by omega) (show T.length - (i+1)<T.length - i by omega)
 ·refine bu <| av <| ax <| au <| aa <| bd4 <| bgi Z Z <| bd3 <| aj <| ai Z (.tmp Z .nil) (Ent.refl _) ?_
  exact ⟨rfl,rfl⟩
end

section
variable {b:World} {F:List SP}
end

structure Ag where
 kind:Int
 e:Ev
 frm:Int
 d:Int × Int
 id:List Int
 bv:Value
 bs:List Int
def agC (a:Ag):List Value:= .int .i64 a.kind::(evC a.e ++ .int .i64 a.frm :: .int .i64 a.d.1 :: .int .i64 a.d.2::(u8s a.id ++ [a.bv]))
theorem ao4 {a:Ag} (h:a.e.id.length=32) (hi:a.id.length=32):(agC a).length=76:=by
 simp [agC,cu h,hi]
section
variable {b:World} {F:List SP} {is:Bool} {e:Int} {v:Value} {xs:List Int}
end
structure GL (w:World) (v:Value) (l:List Ag):Prop where
 sl:SL w 76 v l.length (flC agC l)
 er:∀ a∈l,ER w a.e
 br:∀ a∈l,VL (Value.int .u8) w a.bv a.bs
def LA (a:Ag):Prop:=LE a.e∧a.e.refs.length≤20∧a.bs.length≤60
section
variable {b:World} {F:List SP} {v:Value} {l:List Ag}
theorem a09 {a:Ag} (h:a.e.id.length=32) {j:Nat} (hj:j<39):(agC a)[1+j]? = (evC a.e)[j]?:=by
 unfold agC
 rw [Nat.add_comm,List.getElem?_cons_succ,List.getElem?_append_left (by rw [cu h];exact hj)]
theorem a1a {a:Ag} (h:a.e.id.length=32) (hi:a.id.length=32):(agC a)[75]? = some a.bv:=by
 unfold agC
 rw [List.getElem?_cons_succ,List.getElem?_append_right (by rw [cu h];omega),cu h]
 simp [hi]
set_option maxRecDepth 20000 in
set_option maxHeartbeats 4000000 in
theorem a1b (hl:∀ w,Sat b F w→GL w v l) (h32:∀ a∈l,a.e.id.length=32∧a.id.length=32) :
  SC Tryz.prog abu [v] b F (fun u F'=>∃ q:Bool,(q=false→l.length≤40∧∀ a∈l,LA a)∧u = .bool q∧F'=F):=by
 refine bf Tryz.func24 Z Z Z <| bt (fun w H=>du (hl w H).sl) ?_
 rintro ⟨A,c,rfl,_,_,_,k4,_⟩
 refine bd4 <| af Z <| bd3 <| ae <| bd4 <| af Z <| bd3 <| ar ?_
 refine b6 (S:=Nat) (fun i=> [(0,.slice A l.length c),(3,.int .i64 (i:Int))]) (fun _=>F) (fun i=>i≤l.length∧i≤41∧∀ k (hk:k<l.length),k<i→LA l[k]) (fun i=>l.length - i) 0 ⟨rfl,rfl,trivial⟩ (Ent.refl _) ⟨Nat.zero_le _,by omega,fun k _ h=>absurd h (Nat.not_lt_zero _)⟩ ?_
 rintro i ⟨i1,i2,i4⟩
 refine ae <| bd4 ?_
 (iterate 5 refine af Z ?_)
 by_cases h1:i<l.length
 ·refine a9 8 (.bool true) Z (congrArg Value.bool (decide_eq_true (by omega))) <| bgj Z Z Z <| bd3 ?_
  refine di Z (fun h2=> ?_) (fun h2=> ?_)
  ·obtain ⟨gg,oo,rfl⟩:=k4 (by omega)
   have hmem:=List.getElem_mem h1
   have hc:∀ w,Sat b F w→∀ j,j<76→w.cell? ⟨gg,oo+i*76+j,none⟩=(agC l[i])[j]?:=fun w H j hj=>lr (f:=agC) (hl w H).sl (fun a ha=>ao4 (h32 a ha).1 (h32 a ha).2) h1 hj
   have her:∀ w,Sat b F w→ER w l[i].e:=fun w H=>(hl w H).er _ hmem
   have hbr:∀ w,Sat b F w→VL (Value.int .u8) w l[i].bv l[i].bs:=fun w H=>(hl w H).br _ hmem
   obtain ⟨hx32,hi32⟩:=h32 _ hmem
   have hnext:LA l[i]→∀ k (hk:k<l.length),k<i+1→LA l[k]:=fun h k hk hlt=>by
    by_cases e:k=i
    ·subst e;exact h
    ·exact i4 k hk (by omega)
   generalize l[i]=x at *
   refine ao <| aa <| ae <| ar <| bd4 <| bgi Z Z <| b5 Z (by omega) <| af Z ?_
   refine iu Z (fun w H=>cn (cs:=evC x.e) Z Z Z (cu hx32) (fun j hj=>by rw [cu hx32] at hj;rw [bi,Int.toNat_natCast,Nat.add_assoc];exact (hc w H (1+j) (by omega)).trans (a09 hx32 hj))) Z ?_
   refine bq Z Z Z (aq2 hx32 her) ?_
   rintro _ _ ⟨q,hq,rfl,rfl⟩
   cases q with
   | true =>
    (iterate 19 refine af Z ?_)
    refine bd3 <| aq Z <| bd4 <| af Z <| bd3 <| aj <| ap <| ag <| da <| ap <| ag <| ai Z (.tmp Z .nil) (Ent.refl _) ?_
    exact ⟨true,(fun h=>by cases h),rfl,rfl⟩
   | false =>
    have hle:LE x.e:=hq Z
    have hrl:=hle.2.1
    refine b9 (fun w H=>du (her w H).rv) ?_
    rintro ⟨A2,c2,hrv,_⟩
    refine b9 (fun w H=>(hbr w H).form) ?_
    rintro ⟨A3,c3,hbv,_⟩
    refine bgj Z Z Z <| b5 Z (by omega) <| bgi Z Z ?_
    refine iu Z (fun w H=>bm (v:=x.e.rv) Z Z Z (by rw [bi,Int.toNat_natCast];exact (hc w H 39 (by omega)).trans ((a09 (a:=x) hx32 (j:=38) (by omega)).trans (by rw [← iw];exact nf hx32)))) Z ?_
    refine a9 26 (.slice A2 x.e.refs.length c2) Z hrv <| bgj Z Z Z <| af Z ?_
    by_cases hr:(20:Int)<x.e.refs.length
    ·refine a9 30 (.bool true) Z (congrArg Value.bool (decide_eq_true hr)) ?_
     (iterate 8 refine af Z ?_)
     refine bd3 <| aq Z <| bd4 <| af Z <| bd3 <| aj <| ap <| ag <| da <| ap <| ag <| ai Z (.tmp Z .nil) (Ent.refl _) ?_
     exact ⟨true,(fun h=>by cases h),rfl,rfl⟩
    refine a9 30 (.bool false) Z (congrArg Value.bool (decide_eq_false hr)) <| bgi Z Z <| b5 Z (by omega) <| af Z ?_
    refine iu Z (fun w H=>bm (v:=x.bv) Z Z Z (by rw [bi,Int.toNat_natCast];exact (hc w H 75 (by omega)).trans (a1a (a:=x) hx32 hi32))) Z ?_
    refine a9 35 (.slice A3 x.bs.length c3) Z hbv <| bgj Z Z Z <| bd3 ?_
    refine di Z (fun h3=> ?_) (fun h3=> ?_)
    ·refine bd4 <| af Z <| bd3 <| aj <| ap <| ag <| da <| ap <| ag <| ai Z (.tmp Z .nil) (Ent.refl _) ?_
     exact ⟨true,(fun h=>by cases h),rfl,rfl⟩
    ·refine ao <| ba <| aa <| ab <| af Z <| b5 Z (by (unfold I64;omega)) <| af Z <| ad ?_
     refine bj (i+1) ⟨rfl,rfl,trivial⟩ (Ent.refl _) ⟨h1,by omega,hnext ⟨hle,by omega,by omega⟩⟩ (show l.length - (i+1)<l.length - i by omega)
  ·refine bu <| av <| ax <| au <| aa <| bd4 <| bgj Z Z Z <| af Z <| bd3 <| aj <| ai Z (.tmp Z .nil) (Ent.refl _) ?_
   exact ⟨_,fun h=>absurd (of_decide_eq_false h) (by omega),rfl,rfl⟩
 ·refine a9 8 (.bool false) Z (congrArg Value.bool (decide_eq_false (by omega))) <| bgj Z Z Z <| bd3 <| al Z <| bu <| av <| ax <| au <| aa <| bd4 <| bgj Z Z Z <| af Z <| bd3 <| aj <| ai Z (.tmp Z .nil) (Ent.refl _) ?_
  refine ⟨_,fun h=>⟨by have:=of_decide_eq_false h;omega,fun a ha=> ?_⟩,rfl,rfl⟩
  obtain ⟨k,hk,rfl⟩:=List.mem_iff_getElem.1 ha
  exact i4 k hk (by omega)
end

theorem am4 {id b:List Int}:∀ {X:BL} (Y:BL),km id X=some b→km id (X++Y)=some b
 | [], _, h => by cases h
 | e :: X, Y, h => by
  rw [List.cons_append,km]
  rw [km] at h
  split at h
  ·rw [if_pos (by assumption)];exact h
  ·rw [if_neg (by assumption)];exact am4 Y h
theorem am5 {id b:List Int}:∀ {X:BL},km id X=none→km id (X ++ [(id,b)])=some b
 | [], _ => if_pos Z
 | e :: X, h => by
  rw [List.cons_append,km]
  rw [km] at h
  split at h
  ·cases h
  ·rw [if_neg (by assumption)];exact am5 h
theorem am6 {id a b xs:List Int} {X:BL} {w r:Int} (h:km id X=some b):km id (yt X a xs w r)=some b:=by
 unfold yt;split
 ·exact am4 _ h
 ·exact h
theorem aty {id a b xs:List Int} {L:List Wn} {d:Int × Int} {X:BL} {w r:Int} (h:km id X=some b):km id (ol L X d a xs w r)=some b:=by
 unfold ol;split
 ·exact am6 h
 ·exact h
theorem am7 {id xs:List Int} {X:BL} {w r:Int} (h:pi X id xs w r=0):km id (yt X id xs w r)=some xs∧dg xs w=id:=by
 have h0:=h
 unfold pi at h
 split at h
 ·cases h
 ·split at h
  ·rename_i hd
   refine ⟨?_,hd⟩
   cases hf:km id X with
   | some y =>
    rw [hf] at h
    dsimp only at h
    split at h
    ·rename_i he;subst he;exact am6 hf
    ·cases h
   | none =>
    have hb:vj X id xs w r=true:=by rw [vj,hf,h0];rfl
    rw [yt,if_pos hb]
    exact am5 hf
  ·cases h
theorem arp {d:Int × Int}:∀ {C:CL},d∉C.map (·.1)→cfm d C = []
 | [], _ => rfl
 | e :: C, h => by
  rw [List.map_cons,List.mem_cons,not_or] at h
  rw [cfm,if_neg (fun h1=>h.1 h1.symm)]
  exact arp h.2
theorem qu {d d':Int × Int} (h:d'≠d):∀ {C:CL},cfm d' (zt d C)=cfm d' C
 | [] => rfl
 | e :: C => by
  rw [zt]
  split
  ·rename_i h1
   rw [cfm,if_neg (fun h2=>h (h2.symm.trans h1))]
  ·rw [cfm,cfm]
   split
   ·rfl
   ·exact qu h
theorem ak7 (d:Int × Int):∀ C:CL,((zt d C).map (·.1)).Sublist (C.map (·.1))
 | [] => .slnil
 | e :: C => by
  rw [zt]
  split
  ·exact (List.Sublist.refl _).cons _
  ·exact (ak7 d C).cons_cons _
theorem nh {d:Int × Int}:∀ {C:CL},(C.map (·.1)).Nodup→cfm d (zt d C) = []
 | [], _ => rfl
 | e :: C, h => by
  rw [List.map_cons,List.nodup_cons] at h
  rw [zt]
  split
  ·rename_i h1;subst h1;exact arp h.1
  ·rename_i h1
   rw [cfm,if_neg h1];exact nh h.2
theorem wc (d:Int × Int) (ids:List (List Int)):∀ C:CL,cfm d (zr d ids C)=ids
 | [] => if_pos Z
 | e :: C => by
  rw [zr]
  split
  ·exact if_pos Z
  ·rename_i h1;rw [cfm,if_neg h1];exact wc d ids C
theorem aax {d d':Int × Int} (h:d'≠d) (ids:List (List Int)):∀ C:CL,cfm d' (zr d ids C)=cfm d' C
 | [] => if_neg fun h1 => h h1.symm
 | e :: C => by
  rw [zr]
  split
  ·rename_i h1
   rw [cfm,if_neg fun h2=>h h2.symm,cfm,if_neg fun h2=>h (h2.symm.trans h1)]
  ·rw [cfm,cfm]
   split
   ·rfl
   ·exact aax h ids C
theorem arq (d:Int × Int) (ids:List (List Int)):∀ C:CL,(C.map (·.1)).Nodup→((zr d ids C).map (·.1)).Nodup∧∀ k∈(zr d ids C).map (·.1),k=d∨k∈C.map (·.1)
 | [], _ => ⟨by simp [zr], by simp [zr]⟩
 | e :: C, h => by
  rw [List.map_cons,List.nodup_cons] at h
  rw [zr]
  split
  ·rename_i h1;subst h1
   exact ⟨by rw [List.map_cons,List.nodup_cons];exact h,fun k hk=> .inr hk⟩
  ·rename_i h1
   obtain ⟨h2,h3⟩:=arq d ids C h.2
   rw [List.map_cons,List.nodup_cons]
   refine ⟨⟨fun h4=> ?_,h2⟩,fun k hk=> ?_⟩
   ·rcases h3 _ h4 with h5 | h5
    ·exact h1 h5
    ·exact h.1 h5
   ·rcases List.mem_cons.1 hk with rfl | hk
    ·exact .inr (by simp)
    ·rcases h3 k hk with h5 | h5
     ·exact .inl h5
     ·exact .inr (by rw [List.map_cons];exact List.mem_cons_of_mem _ h5)
theorem am8 (x:List Int):jd x x=0:=by have:=yd (u8l x) (u8l x);show Lib.compareBytes _ _=0;omega
theorem ahj.nodup {l:List (List Int)} (h:ahj l):l.Nodup:=h.imp fun {a c} h1 h2=>by rw [h2,am8] at h1;omega
theorem ak8 {id x:List Int} {l:List (List Int)}:x∈r8 id l↔x=id∨x∈l:=by
 unfold r8
 rw [List.mem_append,List.mem_cons,List.mem_filter,List.mem_filter]
 by_cases h:jd x id<0
 ·simp [h,or_comm]
 ·simp [h]
theorem ahj.ins {id:List Int} {l:List (List Int)} (h:ahj l) (hl:∀ x∈l,ii x) (hi:ii id) (hn:id∉l):ahj (r8 id l):=by
 have lt2:∀ a∈l,¬ jd a id<0→jd id a<0:=fun a ha h1=>by
  have h2:jd a id = -jd id a:=yd _ _
  have h3:jd a id≠0:=fun h4=>hn (by rw [← (zw (hl a ha) hi).1 h4];exact ha)
  omega
 refine List.pairwise_append.2 ⟨List.Pairwise.filter _ h,List.pairwise_cons.2 ⟨fun a ha=> ?_,List.Pairwise.filter _ h⟩,fun a ha c hc=> ?_⟩
 ·rw [List.mem_filter] at ha
  exact lt2 a ha.1 (by simpa using ha.2)
 ·rw [List.mem_filter] at ha
  have h1:=of_decide_eq_true ha.2
  rcases List.mem_cons.1 hc with rfl | hc
  ·exact h1
  ·rw [List.mem_filter] at hc
   exact ae4 (hl a ha.1) (hl c hc.1) h1 (lt2 c hc.1 (by simpa using hc.2))
theorem a8e {α:Type} [DecidableEq α] {l r:List α} (hn:l.Nodup) (hs:∀ x∈l,x∈r) (hl:l.length=r.length):∀ m∈r,m∈l:=fun m hm=>by
 by_cases h:m∈l
 ·exact h
 ·have:=ait (l:=m::l) (l':=r) (List.nodup_cons.2 ⟨h,hn⟩) fun x hx=>by
   rcases List.mem_cons.1 hx with rfl | hx
   ·exact hm
   ·exact hs x hx
  rw [List.length_cons] at this
  omega
structure GI (n:Nat) (w:Int) (V:List Int) (L:List Wn) (C:CL) (X:BL):Prop where
 q:QI n V L
 nd:(C.map (·.1)).Nodup
 ref:∀ d,∀ x∈cfm d C,ahk L d x=true
 rise:RC' C
 ids:∀ d,∀ x∈cfm d C,idOk x
 got:∀ d,∀ x∈cfm d C,∃ b,km x X=some b∧dg b w=x
theorem q8 {L:List Wn} {d:Int × Int} {x:List Int} (h:ahk L d x=true):∃ y,jc d L=some y∧x∈y.e.refs:=by
 unfold ahk at h
 split at h
 ·rename_i y hy;exact ⟨y,hy,of_decide_eq_true h⟩
 ·cases h
theorem avo {L:List Wn} {d:Int × Int} {x:List Int} {y:Wn} (h:jc d L=some y) (hx:x∈y.e.refs):ahk L d x=true:=by rw [ahk,h];exact decide_eq_true hx
section
variable {n:Nat} {w:Int} {V:List Int} {L:List Wn} {C:CL} {X:BL} (h:GI n w V L C X)
include h
theorem GI.ck:CK C:=fun d=>⟨h.ids d,by
 cases hc:cfm d C with
 | nil => decide
 | cons x l =>
  obtain ⟨y,hy,_⟩:=q8 (h.ref d x (by rw [hc];exact List.mem_cons_self))
  have h1:=ait (l:=cfm d C) (l':=y.e.refs) (h.rise d).nodup fun z hz=>by
   obtain ⟨y',hy',hz'⟩:=q8 (h.ref d z hz)
   rw [hy] at hy';cases hy';exact hz'
  have h2:=h.q.rf y (fg hy).1
  rw [← hc];omega⟩
theorem GI.ship {d:Int × Int} {id xs:List Int} {r:Int} (hid:idOk id):GI n w V L (mz L C X d id xs w r) (ol L X d id xs w r):=by
 have hg:∀ d',∀ x∈cfm d' C,∃ b,km x (ol L X d id xs w r)=some b∧dg b w=x:=fun d' x hx=>by
  obtain ⟨b,h1,h2⟩:=h.got d' x hx
  exact ⟨b,aty h1,h2⟩
 unfold mz
 split
 ·rename_i hB
  have hB':=hB
  simp only [lh,Bool.and_eq_true,decide_eq_true_eq,Bool.not_eq_true',decide_eq_false_iff_not] at hB'
  obtain ⟨⟨hr,hp⟩,hc⟩:=hB'
  obtain ⟨g1,g2⟩:=am7 hp
  have key:∀ d',∀ x∈cfm d' (zr d (r8 id (cfm d C)) C),(d'=d∧x=id)∨x∈cfm d' C:=fun d' x hx=>by
   by_cases hd:d'=d
   ·subst hd
    rw [wc] at hx
    rcases ak8.1 hx with hx | hx
    ·exact .inl ⟨rfl,hx⟩
    ·exact .inr hx
   ·rw [aax hd] at hx;exact .inr hx
  refine ⟨h.q,(arq d _ C h.nd).1,fun d' x hx=> ?_,fun d'=> ?_,fun d' x hx=> ?_,fun d' x hx=> ?_⟩
  ·rcases key d' x hx with ⟨rfl,rfl⟩ | hx
   ·exact hr
   ·exact h.ref d' x hx
  ·by_cases hd:d'=d
   ·subst hd
    rw [wc]
    exact (h.rise _).ins (fun x hx=>il (h.ids _ x hx)) (il hid) hc
   ·rw [aax hd];exact h.rise d'
  ·rcases key d' x hx with ⟨rfl,rfl⟩ | hx
   ·exact hid
   ·exact h.ids d' x hx
  ·rcases key d' x hx with ⟨rfl,rfl⟩ | hx
   ·exact ⟨xs,by rw [ol,if_pos hr];exact g1,g2⟩
   ·exact hg d' x hx
 ·exact ⟨h.q,h.nd,h.ref,h.rise,h.ids,hg⟩
theorem GI.add {e:Ev} {s:Int} (hew:EW e) (hl:e.refs.length≤1000000):GI n w V (qe V L w e s) C X:=by
 have hq:QI n V (qe V L w e s):=by
  unfold qe;split
  ·exact h.q.add hew hl
  ·exact h.q
 refine ⟨hq,h.nd,fun d x hx=> ?_,h.rise,h.ids,h.got⟩
 obtain ⟨y,hy,hx'⟩:=q8 (h.ref d x hx)
 obtain ⟨hm,hd⟩:=fg hy
 suffices ∃ y'∈qe V L w e s,y'.e=y.e by
  obtain ⟨y',h1,h2⟩:=this
  exact avo (r6 hq.nd h1 (by rw [dotW,h2];exact hd)) (by rw [h2];exact hx')
 unfold qe
 split
 ·unfold xw
  split
  ·exact ⟨y,hm,rfl⟩
  ·split
   ·exact ⟨_,List.mem_map.2 ⟨y,hm,rfl⟩,aaw _ _ _⟩
   ·split
    ·exact ⟨y,hm,rfl⟩
    ·exact ⟨y,(wj _ L).symm.subset (List.mem_cons_of_mem _ hm),rfl⟩
 ·exact ⟨y,hm,rfl⟩
end
inductive Dls (w:Int) (X:BL):List Int→List Ev→List Int→Prop
 | nil (V : List Int) : Dls w X V [] V
 | cons {V V' : List Int} {e : Ev} {D : List Ev} (h1 : u5 V e.r e.n = false) (h2 : qb e.deps V = true) (h3 : afm V e.r e.n = me V e.r e.n) (h4 : ∀ m ∈ e.refs, ∃ b, km m X = some b ∧ dg b w = m) (h5 : EW e) (h : Dls w X (me V e.r e.n) D V') : Dls w X V (e :: D) V'
section
variable {n:Nat} {w:Int} {X:BL}
theorem GI.one {V:List Int} {L:List Wn} {C:CL} {d:Int × Int} {l:List (Int × Int)} (h:GI n w V L C X) (hr:gz V L C=d::l) :
  GI n w (me V d.1 d.2) (pv d L) (zt d C) X∧(pv d L).length<L.length∧∀ {D V'},Dls w X (me V d.1 d.2) D V'→Dls w X V (ak4 d L::D) V':=by
 have hm:d∈gz V L C:=by rw [hr];exact List.mem_cons_self
 obtain ⟨hm1,hm2⟩:=List.mem_filter.1 hm
 obtain ⟨x,hx,hle,rfl⟩:=zu h.q hm1
 have hxm:=(fg hx).1
 rw [pg,hx] at hm2
 have hlen:(cfm (dotW x) C).length=x.e.refs.length:=of_decide_eq_true hm2
 obtain ⟨r1,r2,r3,r4,r5⟩:=h.q.ripe hxm hle
 have hev:ak4 (dotW x) L=nE x.e:=by rw [ak4,hx]
 have hin:∀ m∈x.e.refs,m∈cfm (dotW x) C:=a8e (h.rise _).nodup (fun z hz=>by
  obtain ⟨y,hy,hz'⟩:=q8 (h.ref _ z hz)
  rw [hx] at hy;cases hy;exact hz') hlen
 refine ⟨⟨h.q.del hxm hle,(ak7 _ C).nodup h.nd,fun d' z hz=> ?_,fun d'=> ?_,fun d' z hz=> ?_,fun d' z hz=> ?_⟩,ao2 hx,fun {D V'} hD=> ?_⟩
 ·by_cases hd:d'=dotW x
  ·subst hd;rw [nh h.nd] at hz;cases hz
  ·rw [qu hd] at hz
   obtain ⟨y,hy,hz'⟩:=q8 (h.ref _ z hz)
   obtain ⟨hy1,hy2⟩:=fg hy
   exact avo (r6 (h.q.del hxm hle).nd (acr.2 ⟨hy1,by rw [hy2];exact hd⟩) hy2) hz'
 ·by_cases hd:d'=dotW x
  ·subst hd;rw [nh h.nd];exact List.Pairwise.nil
  ·rw [qu hd];exact h.rise d'
 ·by_cases hd:d'=dotW x
  ·subst hd;rw [nh h.nd] at hz;cases hz
  ·rw [qu hd] at hz;exact h.ids d' z hz
 ·by_cases hd:d'=dotW x
  ·subst hd;rw [nh h.nd] at hz;cases hz
  ·rw [qu hd] at hz;exact h.got d' z hz
 ·rw [hev]
  refine .cons (h.q.new x hxm) hle ?_ (fun m hm=>h.got _ m (hin m hm)) ((h.q.ew x hxm).own _ _) hD
  exact amv h.q.num (by rw [h.q.len];exact h.q.n2) r1 r2 r3 (by show atL V x.e.r<x.e.n;omega)
theorem GI.dlv:∀ (k:Nat) {V:List Int} {L:List Wn} {C:CL},GI n w V L C X→GI n w (dlv k V L C).2.1 (dlv k V L C).2.2.1 (dlv k V L C).2.2.2 X∧Dls w X V (dlv k V L C).1 (dlv k V L C).2.1∧(dlv k V L C).1.length≤k∧(L.length≤k→gz (dlv k V L C).2.1 (dlv k V L C).2.2.1 (dlv k V L C).2.2.2 = [])
 | 0, V, L, C, h => by
  refine ⟨h,.nil V,Nat.le_refl _,fun hk=> ?_⟩
  obtain rfl:L = []:=List.length_eq_zero_iff.1 (by omega)
  refine amz fun e he=> ?_
  obtain ⟨x,hx,_⟩:=zu h.q he
  cases hx
 | k + 1, V, L, C, h => by
  cases hr:gz V L C with
  | nil =>
   rw [zv hr]
   exact ⟨h,.nil V,Nat.zero_le _,fun _=>hr⟩
  | cons d l =>
   obtain ⟨h1,h2,h3⟩:=h.one hr
   obtain ⟨i1,i2,i3,i4⟩:=GI.dlv k h1
   rw [ahi hr]
   exact ⟨i1,h3 i2,by simpa using i3,fun hk=>i4 (by omega)⟩
theorem GI.dlvG {V:List Int} {L:List Wn} {C:CL} (h:GI n w V L C X):GI n w (pw V L C).2.1 (pw V L C).2.2.1 (pw V L C).2.2.2 X∧Dls w X V (pw V L C).1 (pw V L C).2.1∧(pw V L C).1.length≤100000∧gz (pw V L C).2.1 (pw V L C).2.2.1 (pw V L C).2.2.2 = []:=by
 obtain ⟨h1,h2,h3,h4⟩:=GI.dlv L.length h
 exact ⟨h1,h2,Nat.le_trans h3 h.q.many,h4 (Nat.le_refl _)⟩
end
theorem GI.start {n:Nat} {w:Int} (h1:1≤n) (h2:n≤16) (X:BL):GI n w (List.replicate n 0) [] [] X:=⟨QI.start h1 h2,List.nodup_nil,fun d x hx=>(by cases hx),fun d=>List.Pairwise.nil,fun d x hx=>(by cases hx),fun d x hx=>(by cases hx)⟩
structure Gs where
 V:List Int
 L:List Wn
 C:CL
 X:BL


structure AW (a:Ag):Prop where
 ew:EW a.e
 el:EvL a.e
 dl:a.e.deps.length≤1000000
 rl:a.e.refs.length≤1000000
 d:j8 a.d
 id:idOk a.id
 bw:ii a.bs
 bl:a.bs.length≤1000000
theorem am9:∀ (p:List Value) {l:List Value} {k o n:Nat},p.length=k→pn (p++l) (k+o) n=pn l o n
 | [], l, k, o, n, h => by subst h; simp
 | c :: p, l, k, o, n, h => by
  obtain ⟨k,rfl⟩:∃ m,k=m+1:=⟨k - 1,by simp only [List.length_cons] at h;omega⟩
  rw [List.cons_append,show k+1+o=(k+o)+1 by omega]
  have:=am9 p (l:=l) (k:=k) (o:=o) (n:=n) (by simp only [List.length_cons] at h;omega)
  rw [← this]
  cases n <;> rfl
section
variable {a:Ag} (h:a.e.id.length=32) (hi:a.id.length=32)
include h
theorem a1c:pn (agC a) 1 39=some (evC a.e):=tm _ (cu h)
theorem arr {o n:Nat}:pn (agC a) (40+o) n=pn (.int .i64 a.frm :: .int .i64 a.d.1 :: .int .i64 a.d.2::(u8s a.id ++ [a.bv])) o n:=by
 rw [show agC a=(.int .i64 a.kind::evC a.e)++(.int .i64 a.frm :: .int .i64 a.d.1 :: .int .i64 a.d.2::(u8s a.id ++ [a.bv])) from rfl]
 exact am9 _ (by rw [List.length_cons,cu h])
theorem avp:nth (agC a) 40=some (.int .i64 a.frm):=by
 rw [iw,agC,List.getElem?_cons_succ,List.getElem?_append_right (by rw [cu h];omega),cu h];rfl
theorem a5o:pn (agC a) 41 2=some [.int .i64 a.d.1,.int .i64 a.d.2]:=(arr h (o:=1) (n:=2)).trans (tm (l:= [.int .i64 a.d.1,.int .i64 a.d.2]) _ Z)
include hi
theorem a1d:pn (agC a) 43 32=some (u8s a.id):=(arr h (o:=3) (n:=32)).trans (tm _ (by rw [bg,hi]))
theorem avq:nth (agC a) 75=some a.bv:=by rw [iw];exact a1a h hi
end
section
variable {b:World} {F:List SP} {gg gq gs n:Nat} {w r:Int} {a:Ag} {g:Gs}
end
section
variable {b:World} {F:List SP} {w r:Int}
end

theorem GL.ext {w w':World} {v:Value} {l:List Ag} (h:GL w v l) (x:Ext w w'):GL w' v l:=⟨h.sl.ext x,fun m hm=>(h.er m hm).ext x,fun m hm=>(h.br m hm).ext x⟩
structure GLs (W:World) (v:Value) (l:List Ag):Prop where
 gl:GL W v l
 ew:∀ a∈l,EW a.e
 d:∀ a∈l,j8 a.d
 id:∀ a∈l,idOk a.id
 bw:∀ a∈l,ii a.bs
 fr:∀ a∈l,I64 a.frm
abbrev bgh:Rdg (Int × ((Int × Int) × (Value × List Int) × Int × ByteArray × ByteArray × List Int × (Value × List (List Int))) × Int × (Int × Int) × List Int × (Value × List Int)) :=
 rdN 1 (rdI .i64) (rdN 39 bdp (rdN 1 (rdI .i64) (rdN 2 (rdN 1 (rdI .i64) (rdI .i64)) (rdN 32 (Go.Eng.rdA 32 .u8) (rdL 1 (rdI .u8))))))
def bd0 (x:Int × ((Int × Int) × (Value × List Int) × Int × ByteArray × ByteArray × List Int × (Value × List (List Int))) × Int × (Int × Int) × List Int × (Value × List Int)):Ag:=⟨x.1,a27 x.2.1,x.2.2.1,x.2.2.2.1,x.2.2.2.2.1,x.2.2.2.2.2.1,x.2.2.2.2.2.2⟩
theorem axk {W:World} {v:Value} {x:Value × List _} (h:rdL 76 bgh W [v] x):GLs W v (x.2.map bd0):=by
 obtain ⟨h1,h2,h3⟩:=abr (g:=bd0) (f:=agC) (p:=fun a=>EW a.e∧ER W a.e∧j8 a.d∧idOk a.id∧ii a.bs∧VL (Value.int .u8) W a.bv a.bs∧I64 a.frm) (fun cs x hx=>by
  obtain ⟨⟨hx1,_⟩,hx2,⟨hx3,hx3'⟩,⟨⟨a1,a2⟩,a3,a4⟩,⟨b1,b2,b3⟩,hx6⟩:=hx
  obtain ⟨e1,e2,e3⟩:=az6 hx2
  obtain ⟨c1,c2,c3⟩:=ajn hx6
  exact ⟨rj hx1 (rj e1 (rj hx3 (rj (rj a1 a3) (rj b1 c1)))),e2,e3,⟨a2,a4⟩,⟨b2,b3⟩,aze c3,c2,anw hx3'⟩) h
 simp only [List.cons.injEq,and_true] at h1
 subst h1
 exact ⟨⟨h2,fun m hm=>(h3 m hm).2.1,fun m hm=>(h3 m hm).2.2.2.2.2.1⟩,fun m hm=>(h3 m hm).1,fun m hm=>(h3 m hm).2.2.1,fun m hm=>(h3 m hm).2.2.2.1,fun m hm=>(h3 m hm).2.2.2.2.1,fun m hm=>(h3 m hm).2.2.2.2.2.2⟩
theorem GLs.aw {W:World} {v:Value} {l:List Ag} (h:GLs W v l) {a:Ag} (ha:a∈l) (hl:LA a):AW a:=by
 obtain ⟨⟨q1,q2,q3,q4⟩,q5,q6⟩:=hl
 exact ⟨h.ew a ha,⟨by omega,by omega,by omega,by omega⟩,by omega,by omega,h.d a ha,h.id a ha,h.bw a ha,by omega⟩
section
variable {b:World} {F:List SP}
end

def xq (L:List Wn):Prop:=L.length≤64∧∀ w∈L,w.e.refs.length≤20
theorem xq.add {L:List Wn} (h:xq L) {V:List Int} {w:Int} {e:Ev} {s:Int} (he:e.refs.length≤20):xq (qe V L w e s):=by
 unfold qe
 split
 ·unfold xw
  split
  ·exact h
  ·split
   ·refine ⟨by rw [List.length_map];exact h.1,fun x hx=> ?_⟩
    obtain ⟨y,hy,rfl⟩:=List.mem_map.1 hx
    rw [aaw];exact h.2 y hy
   ·split
    ·exact h
    ·refine ⟨by rw [(wj _ L).length_eq,List.length_cons];omega,fun x hx=> ?_⟩
     rcases List.mem_cons.1 ((wj _ L).subset hx) with rfl | hx
     ·exact he
     ·exact h.2 x hx
 ·exact h
theorem xq.del {L:List Wn} (h:xq L) (d:Int × Int):xq (pv d L):=⟨Nat.le_trans (List.length_filter_le _ _) h.1,fun x hx=>h.2 x (acr.1 hx).1⟩
theorem xq.dlv:∀ (k:Nat) {V:List Int} {L:List Wn} {C:CL},xq L→xq (dlv k V L C).2.2.1
 | 0, _, _, _, h => h
 | k + 1, V, L, C, h => by
  cases hr:gz V L C with
  | nil => rw [zv hr]; exact h
  | cons d l => rw [ahi hr]; exact xq.dlv k (h.del d)
theorem axl (C:CL) (w:Wn) (l:List (List Int)):(ly C w l).length≤l.length:=by
 unfold ly
 rw [List.length_map]
 exact List.length_filter_le _ _
theorem xq.wants {L:List Wn} (h:∀ w∈L,w.e.refs.length≤20) (C:CL):(ir L C).length≤20*L.length:=by
 induction L with
 | nil => exact Nat.zero_le _
 | cons x L ih =>
  have h1:=ih fun w hw=>h w (List.mem_cons_of_mem _ hw)
  have h2:=axl C x x.e.refs
  have h3:=h x List.mem_cons_self
  have e:ir (x::L) C=ly C x x.e.refs++ir L C:=rfl
  rw [e,List.length_append,List.length_cons]
  omega
theorem a1e {n:Nat} {V:List Int} {L:List Wn} (hq:QI n V L) (C:CL):∀ x∈ir L C,x.id.length=32:=fun x hx=>by
 obtain ⟨w,hw,hx⟩:=List.mem_flatMap.1 hx
 obtain ⟨z,hz,rfl⟩:=List.mem_map.1 hx
 exact ((hq.ew w hw).rf z (List.mem_filter.1 hz).1).1
theorem ars {L:List Wn} {C:CL} (hc:CK C) {T:List Pf} (hT:prf T=je L C):(∀ e∈T,fw e.ids)∧T.length≤L.length:=by
 refine ⟨fun e he=> ?_,?_⟩
 ·have h1:(e.d,e.ids)∈je L C:=by rw [← hT];exact List.mem_map.2 ⟨e,he,rfl⟩
  obtain ⟨w,hw,h2⟩:=List.mem_map.1 h1
  have h3:cfm (dotW w) C=e.ids:=congrArg Prod.snd h2
  rw [← h3]
  exact fun x hx=>((hc _).1 x hx).1
 ·have h1:=congrArg List.length hT
  rw [prf,List.length_map] at h1
  rw [h1,je,List.length_map]
  exact List.length_filter_le _ _
theorem avr:∀ (k:Nat) {n:Nat} {w:Int} {X:BL} {V:List Int} {L:List Wn} {C:CL},GI n w V L C X→∀ e∈(dlv k V L C).1,∃ x∈L,e=nE x.e
 | 0, _, _, _, _, _, _, _, e, he => by cases he
 | k + 1, n, w, X, V, L, C, h, e, he => by
  cases hr:gz V L C with
  | nil => rw [zv hr] at he; cases he
  | cons d l =>
   rw [ahi hr] at he
   rcases List.mem_cons.1 he with rfl | he
   ·have hm:d∈gz V L C:=by rw [hr];exact List.mem_cons_self
    obtain ⟨x,hx,_⟩:=zu h.q (List.mem_filter.1 hm).1
    exact ⟨x,(fg hx).1,by rw [ak4,hx]⟩
   ·obtain ⟨x,hx,h2⟩:=avr k (h.one hr).1 e he
    exact ⟨x,(acr.1 hx).1,h2⟩
end Go.Proofs.YtdmfcnjgdicncaaGreat
