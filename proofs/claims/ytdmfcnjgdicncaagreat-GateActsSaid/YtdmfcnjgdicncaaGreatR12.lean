/- Gates, part twenty-eight: the document's gate in memory; what of an event is confirmed; a digest is confirmed. Conditions: not too many. -/
import Derived.Test.YtdmfcnjgdicncaaGreatR10
import Derived.Test.YtdmfcnjgdicncaaGreatR8
import Derived.Test.YtdmfcnjgdicncaaGreatR11
import Derived.Test.YtdmfcnjgdicncaaGreatR9
namespace Go.Proofs.YtdmfcnjgdicncaaGreat
open Go Go.Eng Go.RowKit Go.WideMaps Go.Heap

abbrev rgC (wq wt:Nat) (A:Option Addr) (c n:Nat):List Value:= [.pointer (some ⟨wq,0,none⟩),.pointer (some ⟨wt,0,none⟩),.slice A n c]
abbrev stX (gw wq wt:Nat) (A:Option Addr) (c:Nat) (l:List Pf) (F:List SP):List SP:=pt gw ic (rgC wq wt A c l.length)::rCn A c l.length l::all (pF l)::F
def vAt (d:Int × Int) (l:List Pf):Value:=match qf d l with
 | some e => e.v
 | none => .slice none 0 0
section
variable {b:World} {F:List SP} {l:List Pf} {d:Int × Int}
theorem ak9 {k:Nat} (hk:nth F k=some (all (pF l))):∀ w,Sat b F w→SL w 32 (vAt d l) (cfm d (prf l)).length (et (cfm d (prf l))):=fun W H=>by
 rw [amw]
 unfold vAt
 cases hf:qf d l with
 | none => exact ⟨none, 0, rfl, rfl, Nat.le_refl _, by decide, fun _ => rfl, fun h => absurd h (by decide)⟩
 | some e => exact yr hk (ac8 hf).1 W H
theorem ada {k:Nat} {bk off c i j:Nat} (hk:nth F k=some (rCn (some ⟨bk,off,none⟩) c l.length l)) (hi:i<l.length) (hj:j<3):∀ w,Sat b F w→w.cell? ⟨bk,off+i*3+j,none⟩=(cfC l[i])[j]?:=fun w H=>lr (H.oat hk).sl (fun _ _=>rfl) hi hj
theorem atz {k:Nat} {bk off c i:Nat} (hk:nth F k=some (rCn (some ⟨bk,off,none⟩) c l.length l)) (hi:i<l.length):∀ w,Sat b F w→∀ j,j<2→w.cell? ⟨bk,off+i*3+j,none⟩ = [Value.int .i64 l[i].d.1,.int .i64 l[i].d.2][j]?:=fun w H j hj=>by
 rcases j with _ | _ | j
 ·exact (ada hk hi (j:=0) (by omega) w H).trans Z
 ·exact (ada hk hi (j:=1) (by omega) w H).trans Z
 ·omega
set_option maxHeartbeats 1000000 in
theorem ao5 {va:Value} {l:List (List Int)} {x:List Int} (ha:∀ w,Sat b F w→SL w 32 va l.length (et l)) (hl:fw l) (hx:x.length=32) :
  SC Tryz.prog adl [va,idV x] b F (fun v F'=>v = .bool (decide (x∈l))∧F'=F):=by
 refine bf Tryz.func98 Z Z Z <| bt (fun w H=>du (ha w H)) ?_
 rintro ⟨A,c,rfl,h1,h2,h3,h4,_⟩
 refine bd4 <| cq Z Z Z Z Z fun g3=>af Z <| bd3 <| ae <| bd4 <| af Z <| bd3 <| ar ?_
 refine b6 (S:=Nat) (fun i=> [(0,.slice A l.length c),(3,.pointer (some ⟨g3,0,none⟩)),(5,.int .i64 (i:Int))]) (fun _=>pt g3 t_api_ID (u8s x)::F) (fun i=>i≤l.length∧x∉l.take i) (fun i=>l.length - i) 0 ⟨rfl,rfl,rfl,trivial⟩ (Ent.refl _) ⟨Nat.zero_le _,by simp⟩ ?_
 rintro i ⟨hi,hk⟩
 refine ae <| bd4 <| bgj Z Z Z <| af Z <| bd3 ?_
 refine di Z (fun h=> ?_) (fun h=> ?_)
 ·have h':i<l.length:=by omega
  obtain ⟨gA,oA,rfl⟩:=h4 (by omega)
  have ca:=jt ha hl h'
  have hy:=hl _ (List.getElem_mem h')
  have hmem:=List.getElem_mem h'
  have htk:=List.take_succ_eq_append_getElem h'
  generalize l[i]=y at ca hy hmem htk
  refine ao <| aa <| ae <| ar <| ae <| b7 flo _ (by decide +kernel) (Ent.refl _) <| ay Z Zl <| ay Z Zl <| dj Z Z (by omega) ?_
  refine fu Z (fun w H=>cn (cs:=u8s y) Z Z Z (by rw [bg,hy];rfl) (fun j hj=>by rw [bi,Int.toNat_natCast];exact ca w (H.ent (ac 1 [] Z Z)) j (by rw [bg,hy] at hj;exact hj))) Z Z ?_
  refine jm 0 Z Z Z Z Z Z (ig hx) Z Z <| qz Z (yi (as00:=y) (bs:=x) Z Z hy hx) Z Z <| az <| aa ?_
  refine di Z (fun hxy=> ?_) (fun hxy=> ?_)
  ·refine bd4 <| af Z <| bd3 <| aj <| ap <| ag <| da <| ap <| ag <| ai Z (.tmp Z .nil) (ac 1 [] Z Z) ?_
   exact ⟨congrArg Value.bool (decide_eq_true (by rw [← hxy];exact hmem)).symm,rfl⟩
  ·refine ao <| ba <| aa <| ab <| af Z <| b5 Z (by (unfold I64;omega)) <| af Z <| ad ?_
   rw [show (i:Int)+1=((i+1:Nat):Int) by omega]
   refine bj (i+1) ⟨rfl,rfl,rfl,trivial⟩ (Ent.refl _) ⟨h',?_⟩ (by omega)
   rw [htk]
   simp [hk]
   exact fun h9=>hxy h9.symm
 ·refine bu <| av <| ax <| au <| aa <| bd4 <| af Z <| bd3 <| aj <| ai Z (.tmp Z .nil) (ac 1 [] Z Z) <| ⟨congrArg Value.bool (decide_eq_false ?_).symm,rfl⟩
  rw [List.take_of_length_le (by omega)] at hk
  exact hk
theorem at0 {i:Nat} (hi:i<l.length):qf d (l.drop i)=if l[i].d=d then some l[i] else qf d (l.drop (i+1)):=by
 rw [List.drop_eq_getElem_cons hi,qf]
variable {gw wq wt c:Nat} {A:Option Addr}
set_option maxRecDepth 20000 in
set_option maxHeartbeats 2000000 in
theorem qg:SC Tryz.prog rq [.pointer (some ⟨gw,0,none⟩),ry d] b (stX gw wq wt A c l F) (fun v F'=>v=vAt d l∧F'=stX gw wq wt A c l F):=by
 refine bf Tryz.func96 Z Z Z <| bd4 <| cq Z Z Z Z Z fun g3=>b9 (fun w H=>(H.oat (k:=2) Z).form) ?_
 rintro ⟨A',c',hv,_,_,k4⟩
 cases hv
 refine af Z <| bd3 <| ae <| bd4 <| af Z <| bd3 <| ar <| b6 (S:=Nat) (fun i=> [(0,.pointer (some ⟨gw,0,none⟩)),(3,.pointer (some ⟨g3,0,none⟩)),(5,.int .i64 (i:Int))]) (fun _=>pt g3 t_api_Dot [.int .i64 d.1,.int .i64 d.2]::stX gw wq wt A c l F) (fun i=>i≤l.length∧qf d l=qf d (l.drop i)) (fun i=>l.length - i) 0 ⟨rfl,rfl,rfl,trivial⟩ (Ent.refl _) ⟨Nat.zero_le _,rfl⟩ ?_
 rintro i ⟨hi,hk⟩
 refine ae <| bd4 <| bgj Z Z Z <| af Z <| df 1 Z Z Z <| bgi Z Z <| bd3 ?_
 by_cases h:i<l.length
 ·refine cm 12 (.bool true) Z (congrArg Value.bool (decide_eq_true (by omega))) ?_
  obtain ⟨gA,oA,rfl⟩:=k4 (by omega)
  have hcD:∀ {F':List SP} {q:Nat},nth F' q=some (rCn (some ⟨gA,oA,none⟩) c l.length l)→∀ w,Sat b F' w→∀ j,j<2→w.cell? ⟨gA,oA+i*3+j,none⟩ = [Value.int .i64 l[i].d.1,.int .i64 l[i].d.2][j]?:=fun hk w H=>atz hk h w H
  have hcv:∀ {F':List SP} {q:Nat},nth F' q=some (rCn (some ⟨gA,oA,none⟩) c l.length l)→∀ w,Sat b F' w→w.cell? ⟨gA,oA+i*3+2,none⟩=some l[i].v:=fun hk w H=>(ada hk h (j:=2) (by omega) w H).trans Z
  rw [at0 h] at hk
  generalize l[i]=x at *
  refine aq Z <| ao <| aa <| ae <| ar <| ae <| b7 flo _ (by decide +kernel) (Ent.refl _) <| ay Z Zl <| ay Z Zl <| ay Z Zl <| de 1 Z Z Z Z <| ay Z Zl <| dj Z Z (by omega) <| ay Z Zl ?_
  refine fu Z (fun w H=>cn (cs:= [.int .i64 x.d.1,.int .i64 x.d.2]) Z Z Z Z (fun j hj=>by rw [bi,j7];exact hcD (q:=2) Z w H j hj)) Z Z ?_
  refine de 0 Z Z Z Z <| qz Z (aaa Z Z (yq _ _ _ _)) Z Z ?_
  by_cases hd:x.d=d
  ·rw [if_pos hd] at hk
   refine b4 24 (.bool true) Z (congrArg Value.bool (decide_eq_true (by rw [hd];exact ⟨rfl,rfl⟩))) ?_
   refine az <| aa <| aq Z <| bd4 <| bgj Z Z Z <| df 1 Z Z Z <| af Z <| b5 Z (by omega) <| af Z ?_
   refine iu Z (fun w H=>bm (v:=x.v) Z Z Z (by rw [bi,j7];exact hcv (q:=2) Z w H)) Z ?_
   refine af Z <| bd3 <| aj <| ap <| ag <| da <| ap <| ag <| ai Z (.tmp Z .nil) (ac 4 [1,2,3] Z Z) ?_
   exact ⟨by rw [vAt,hk];rfl,rfl⟩
  ·rw [if_neg hd] at hk
   refine b4 24 (.bool false) Z (congrArg Value.bool (decide_eq_false fun h=>hd (Prod.ext h.1 h.2))) <| az <| aa <| al Z <| ao <| ba <| aa <| ab <| af Z <| b5 Z (by (unfold I64;omega)) <| af Z <| ad <| bj (i+1) ⟨rfl,rfl,rfl,trivial⟩ (Ent.refl _) ⟨h,hk⟩ ?_
   show l.length - (i+1)<l.length - i
   omega
 ·refine cm 12 (.bool false) Z (congrArg Value.bool (decide_eq_false (by omega))) ?_
  rw [List.drop_eq_nil_of_le (by omega)] at hk
  refine al Z <| bu <| av <| ax <| au <| aa <| bd4 <| af Z <| bd3 <| aj <| ai Z (.tmp Z .nil) (ac 4 [1,2,3] Z Z) ?_
  exact ⟨by rw [vAt,hk];rfl,rfl⟩
end

def tw (d:Int × Int) (l:List Pf):List Pf:=l.filter fun e=>decide (e.d≠d)
theorem ala {d:Int × Int} (d':Int × Int):∀ l:List Pf,cfm d' (prf (tw d l))=if d'=d then [] else cfm d' (prf l)
 | [] => by simp [tw, prf, cfm]
 | e :: l => by
  have ih:=ala (d:=d) d' l
  unfold tw at ih ⊢
  rw [List.filter_cons]
  by_cases h:e.d=d
  ·rw [if_neg (by simp [h]),ih]
   split
   ·rfl
   ·rename_i h1
    show _=if e.d=d' then e.ids else cfm d' (prf l)
    rw [if_neg fun h2=>h1 (h2.symm.trans h)]
  ·rw [if_pos (by simp [h])]
   show (if e.d=d' then e.ids else cfm d' (prf (List.filter _ l)))=_
   rw [ih]
   show _=if d'=d then [] else if e.d=d' then e.ids else cfm d' (prf l)
   by_cases h1:d'=d
   ·subst h1;rw [if_neg h,if_pos rfl,if_pos rfl]
   ·rw [if_neg h1,if_neg h1]
theorem art (d:Int × Int):∀ (C:CL) (e:(Int × Int) × List (List Int)),d≠e.1→cfm d (C ++ [e])=cfm d C
 | [], e, h => if_neg fun h1 => h h1.symm
 | x :: C, e, h => by
  rw [List.cons_append,cfm,cfm]
  split
  ·rfl
  ·exact art d C e h
theorem aru (d:Int × Int) (ids:List (List Int)):∀ (l:List Pf),cfm d (prf (tw d l) ++ [(d,ids)])=ids
 | [] => if_pos Z
 | e :: l => by
  have ih:=aru d ids l
  unfold tw at ih ⊢
  rw [List.filter_cons]
  by_cases h:e.d=d
  ·rw [if_neg (by simp [h])];exact ih
  ·rw [if_pos (by simp [h])]
   show (if e.d=d then e.ids else cfm d (prf (List.filter _ l) ++ [(d,ids)]))=_
   rw [if_neg h];exact ih
theorem a8f (d:Int × Int) (l:List Pf):∃ B,(pF l).Perm (B++pF (tw d l)):=by
 induction l with
 | nil => exact ⟨[], .refl _⟩
 | cons e l ih =>
  obtain ⟨B,hB⟩:=ih
  unfold tw at hB ⊢
  rw [List.filter_cons]
  split
  ·exact ⟨B,(hB.cons _).trans List.perm_middle.symm⟩
  ·exact ⟨rD e.v e.ids::B,hB.cons _⟩
theorem arv (B:List SP) {F:List SP}:Ent (B++F) F:=by
 induction B with
 | nil => exact Ent.refl _
 | cons x B ih => exact Ent.trans (ac 1 [] Z Z) ih
theorem arw (d:Int × Int) (l:List Pf) {F:List SP}:Ent (all (pF l)::F) (all (pF (tw d l))::F):=by
 obtain ⟨B,hB⟩:=a8f d l
 exact (tz hB).trans (arv B)
theorem ana {d:Int × Int} {l:List Pf} {i:Nat} (hi:i<l.length):tw d (l.take (i+1))=tw d (l.take i)++if l[i].d≠d then [l[i]] else []:=by
 rw [List.take_succ_eq_append_getElem hi,tw,List.filter_append]
 unfold tw
 congr 1
 simp only [List.filter_cons,List.filter_nil,decide_eq_true_eq]
structure Lay (id:List Int) (cl ids:List (List Int)) (put:Bool) (i:Nat):Prop where
 yes:put=true→ids++cl.drop i=r8 id cl
 no:put=false→ids=cl.take i∧∀ x∈cl.take i,jd x id<0
 len:ids.length=if put=true then i+1 else i
theorem Lay.end {id:List Int} {cl ids:List (List Int)} {put:Bool} (h:Lay id cl ids put cl.length):(put=true→ids=r8 id cl)∧(put=false→ids ++ [id]=r8 id cl):=by
 refine ⟨fun hp=> ?_,fun hp=> ?_⟩
 ·have:=h.yes hp
  rwa [List.drop_length,List.append_nil] at this
 ·obtain ⟨h1,h2⟩:=h.no hp
  rw [List.take_length] at h1 h2
  subst h1
  have:=ao3 (id:=id) (l1:=ids) (l2:= []) h2 (fun a ha=>(by cases ha))
  rw [List.append_nil] at this
  exact this.symm
section
variable {id:List Int} {cl ids:List (List Int)} {i:Nat} (hb:∀ x∈cl,ii x) (hi:ii id) (hr:ahj cl) (hn:id∉cl) (hl:i<cl.length)
include hl
theorem Lay.put (h:Lay id cl ids true i):Lay id cl (ids ++ [cl[i]]) true (i+1):=by
 refine ⟨fun _=> ?_,fun hp=>(by cases hp),by have:=h.len;rw [List.length_append,this];rfl⟩
 rw [← h.yes rfl,List.drop_eq_getElem_cons hl,List.append_assoc];rfl
include hb hi hn in
theorem Lay.not (h:Lay id cl ids false i) (hc:¬ jd id cl[i]<0):Lay id cl (ids ++ [cl[i]]) false (i+1):=by
 obtain ⟨h1,h2⟩:=h.no Z
 have hlt:jd cl[i] id<0:=by
  have h3:jd cl[i] id = -jd id cl[i]:=yd _ _
  have h4:jd cl[i] id≠0:=fun h5=>hn (by rw [← (zw (hb _ (List.getElem_mem hl)) hi).1 h5];exact List.getElem_mem hl)
  omega
 refine ⟨fun hp=>(by cases hp),fun _=>⟨by rw [List.take_succ_eq_append_getElem hl,h1],fun x hx=> ?_⟩,by have:=h.len;rw [List.length_append,this];rfl⟩
 rw [List.take_succ_eq_append_getElem hl] at hx
 rcases List.mem_append.1 hx with hx | hx
 ·exact h2 x hx
 ·rw [List.mem_singleton.1 hx];exact hlt
include hb hi hr in
theorem Lay.now (h:Lay id cl ids false i) (hc:jd id cl[i]<0):Lay id cl ((ids ++ [id]) ++ [cl[i]]) true (i+1):=by
 obtain ⟨h1,h2⟩:=h.no Z
 have hdr:∀ x∈cl.drop i,¬ jd x id<0:=fun x hx hlt=>by
  rw [List.drop_eq_getElem_cons hl] at hx
  have h3:jd cl[i] id = -jd id cl[i]:=yd _ _
  rcases List.mem_cons.1 hx with rfl | hx
  ·omega
  ·obtain ⟨k,hk,rfl⟩:=List.mem_iff_getElem.1 hx
   have hk':i+1+k<cl.length:=by simp only [List.length_drop] at hk;omega
   rw [List.getElem_drop] at hlt
   have h4:jd cl[i] cl[i+1+k]<0:=List.pairwise_iff_getElem.1 hr i (i+1+k) hl hk' (by omega)
   have h5:jd cl[i] id<0:=ae4 (hb _ (List.getElem_mem hl)) hi h4 hlt
   omega
 have hins:=ao3 (id:=id) (l1:=cl.take i) (l2:=cl.drop i) h2 hdr
 rw [List.take_append_drop] at hins
 refine ⟨fun _=> ?_,fun hp=>(by cases hp),by have:=h.len;rw [List.length_append,List.length_append,this];rfl⟩
 rw [hins,List.drop_eq_getElem_cons hl,h1,List.append_assoc,List.append_assoc];rfl
end

section
variable {b:World} {F:List SP} {l:List Pf} {d:Int × Int} {gw wq wt c:Nat} {A:Option Addr} {id:List Int}
theorem xt (l:List (List Int)) (x:List Int):et l++u8s x=et (l ++ [x]):=by
 rw [tu];simp [et]
set_option maxRecDepth 20000 in
set_option maxHeartbeats 4000000 in
theorem arx (hb:∀ x∈cfm d (prf l),idOk x) (hi:idOk id) (hr:ahj (cfm d (prf l))) (hn:id∉cfm d (prf l)) (hc:(cfm d (prf l)).length≤1000000) (hl:l.length≤1000000) :
  SC Tryz.prog tp [.pointer (some ⟨gw,0,none⟩),ry d,idV id] b (stX gw wq wt A c l F) (fun _ F'=>∃ A' c' l',prf l'=prf (tw d l) ++ [(d,r8 id (cfm d (prf l)))]∧F'=stX gw wq wt A' c' l' F):=by
 have hw:∀ {F':List SP} {q:Nat},nth F' q=some (all (pF l))→∀ w,Sat b F' w→SL w 32 (vAt d l) (cfm d (prf l)).length (et (cfm d (prf l))):=fun hk=>ak9 hk
 generalize cfm d (prf l)=cl at *
 have hi32:=hi.1
 refine bf Tryz.func106 Z Z Z <| bd4 <| cq Z Z Z Z Z fun g4=>cq Z Z Z Z Z fun g5=>a8r <| af Z <| a8r <| af Z <| a8r <| af Z <| a8r <| af Z <| df 1 Z Z Z <| bq Z Z Z ((qg (gw:=gw) (wq:=wq) (wt:=wt) (A:=A) (c:=c) (l:=l) (d:=d)).ent (ac 5 [2,3,4,0,1] Z Z)) ?_
 rintro _ _ ⟨rfl,rfl⟩
 refine b9 (fun w H=>du (hw (q:=2) Z w H)) ?_
 rintro ⟨Aw,cw,hv,_,_,_,k9,_⟩
 generalize vAt d l=vw at *
 subst hv
 refine b9 (fun w H=>(H.oat (k:=1) Z).form) ?_
 rintro ⟨A',c',hv,_,_,k4⟩
 cases hv
 refine fq ((eh t_api_ID 32 Z).trans (ac 6 [0,4,5,1,2,3] Z Z)) <| af Z <| bd3 ?_
 have hil:(r8 id cl).length=cl.length+1:=by
  have h1:∀ (p:List Int→Bool) (m:List (List Int)),(m.filter p).length+(m.filter fun a=> !p a).length=m.length:=fun p m=>by
   induction m with
   | nil => rfl
   | cons x m ih => cases hp : p x <;> simp [List.filter_cons, hp] <;> omega
  unfold r8
  rw [List.length_append,List.length_cons]
  have:=h1 (fun a=>decide (jd a id<0)) cl
  omega
 refine wu (S:=List (List Int) × Bool × Option Addr × Nat) (fun s=> [(0,.pointer (some ⟨gw,0,none⟩)),(4,.pointer (some ⟨g4,0,none⟩)),(5,.pointer (some ⟨g5,0,none⟩)),(6,.slice none 0 0),(7,.slice s.2.2.1 s.1.length s.2.2.2),(8,.bool s.2.1)])
  (fun s=>rD (.slice s.2.2.1 s.1.length s.2.2.2) s.1::pt g5 t_api_ID (u8s id)::pt g4 t_api_Dot [.int .i64 d.1,.int .i64 d.2]::stX gw wq wt A c l F) (fun s=>(s.2.1=true→s.1=r8 id cl)∧(s.2.1=false→s.1 ++ [id]=r8 id cl)) ?_ ?_
 rotate_left
 ·rintro ⟨ids,put,A7,c7⟩ ⟨hy,hno⟩
  dsimp only at hy hno ⊢
  refine wu (S:=Option Addr × Nat) (fun s=> [(0,.pointer (some ⟨gw,0,none⟩)),(4,.pointer (some ⟨g4,0,none⟩)),(5,.pointer (some ⟨g5,0,none⟩)),(6,.slice none 0 0),(7,.slice s.1 (r8 id cl).length s.2)])
   (fun s=>rD (.slice s.1 (r8 id cl).length s.2) (r8 id cl)::pt g4 t_api_Dot [.int .i64 d.1,.int .i64 d.2]::stX gw wq wt A c l F) (fun _=>True) ?_ ?_
  ·cases put with
   | true =>
    have:=hy Z
    subst this
    refine bd4 <| bgi Z Z <| bd3 <| al Z <| ao ?_
    exact i9 (A7,c7) ⟨rfl,rfl,rfl,rfl,rfl,trivial⟩ (ac 6 [0,2,3,4,5] Z Z) trivial
   | false =>
    have hno:=hno Z
    have e2:ids.length+1=(r8 id cl).length:=by rw [← hno,List.length_append];rfl
    refine bd4 <| bgi Z Z <| bd3 <| aq Z <| ab <| af Z <| dk 1 Z Z Z Z Z Z (ig hi32) Z ?_
    refine ky (cs:=u8s id) Z Z Z Z Z Z Z (by rw [bg,hi32];rfl) (by decide) fun gl=> ?_
    refine dx 1 Z Z Z Z Z Z Z Z Z (m:=1) (news:=u8s id) (fun w H=>(H.blk (k:=0) Z).sl (by rw [bg,hi32]) (by decide)) (dt _) (by omega) (fun _=>rfl) fun v7=> ?_
    refine b9 (fun w H=>(H.oat (k:=1) Z).form) ?_
    rintro ⟨A8,c8,rfl,_,_,_⟩
    rw [xt,hno,e2]
    refine af Z <| ad ?_
    exact i9 (A8,c8) ⟨rfl,rfl,rfl,rfl,rfl,trivial⟩ (ac 7 [1,3,4,5,6] Z Z) trivial
  rintro ⟨A7,c7⟩ _
  dsimp only
  clear hno hy ids put hr hn hb hw k9
  generalize r8 id cl=nw at *
  refine ae <| bd4 <| af Z <| bd3 <| ar ?_
  refine b6 (S:=Nat × List Pf × Option Addr × Nat) (fun s=> [(0,.pointer (some ⟨gw,0,none⟩)),(4,.pointer (some ⟨g4,0,none⟩)),(6,.slice s.2.2.1 s.2.1.length s.2.2.2),(7,.slice A7 nw.length c7),(11,.int .i64 (s.1:Int))])
   (fun s=>rCn s.2.2.1 s.2.2.2 s.2.1.length s.2.1::rD (.slice A7 nw.length c7) nw::pt g4 t_api_Dot [.int .i64 d.1,.int .i64 d.2]::stX gw wq wt A c l F) (fun s=>s.1≤l.length∧s.2.1=tw d (l.take s.1)) (fun s=>l.length - s.1) (0,[],none,0) ⟨rfl,rfl,rfl,rfl,rfl,trivial⟩ (eh ja 3 Z) ⟨Nat.zero_le _,rfl⟩ ?_
  rintro ⟨i,l6,A6,c6⟩ ⟨hi1,hl6⟩
  dsimp only at hi1 hl6 ⊢
  have hl6n:l6.length≤1000000:=by
   have h1:l6.length≤(l.take i).length:=by rw [hl6];exact List.length_filter_le _ _
   rw [List.length_take] at h1;omega
  refine ae <| bd4 <| bgj Z Z Z <| af Z <| df 3 Z Z Z <| bgi Z Z <| bd3 ?_
  by_cases h:i<l.length
  ·refine cm 55 (.bool true) Z (congrArg Value.bool (decide_eq_true (by omega))) ?_
   obtain ⟨gA,oA,rfl⟩:=k4 (by omega)
   have hcD:∀ {F':List SP} {q:Nat},nth F' q=some (rCn (some ⟨gA,oA,none⟩) c l.length l)→∀ w,Sat b F' w→∀ j,j<2→w.cell? ⟨gA,oA+i*3+j,none⟩ = [Value.int .i64 l[i].d.1,.int .i64 l[i].d.2][j]?:=fun hk w H=>atz hk h w H
   have hcx:∀ {F':List SP} {q:Nat},nth F' q=some (rCn (some ⟨gA,oA,none⟩) c l.length l)→∀ w,Sat b F' w→∀ j,j<3→w.cell? ⟨gA,oA+i*3+j,none⟩=(cfC l[i])[j]?:=fun hk w H j hj=>ada hk h (j:=j) hj w H
   have hmem:=List.getElem_mem h
   have htk:=ana (d:=d) h
   generalize l[i]=x at *
   refine aq Z <| ao <| aa <| ae <| ar <| ae <| b7 flo _ (by decide +kernel) (Ent.refl _) <| ay Z Zl <| ay Z Zl <| ay Z Zl <| de 3 Z Z Z Z <| ay Z Zl <| dj Z Z (by omega) <| ay Z Zl ?_
   refine fu Z (fun w H=>cn (cs:= [.int .i64 x.d.1,.int .i64 x.d.2]) Z Z Z Z (fun j hj=>by rw [bi,j7];exact hcD (q:=4) Z w H j hj)) Z Z ?_
   refine de 2 Z Z Z Z <| qz Z (abe Z Z (yq _ _ _ _)) Z Z ?_
   by_cases hd:x.d=d
   ·rw [if_neg (fun h=>h hd),List.append_nil] at htk
    refine b4 67 (.bool false) Z (congrArg Value.bool (by rw [decide_eq_true (p:=x.d.1=d.1∧x.d.2=d.2) (by rw [hd];exact ⟨rfl,rfl⟩)];rfl)) ?_
    refine az <| aa <| al Z <| ao <| ba <| aa <| ab <| af Z <| b5 Z (by (unfold I64;omega)) <| af Z <| ad ?_
    refine bj (i+1,l6,A6,c6) ⟨rfl,rfl,rfl,rfl,rfl,trivial⟩ (Ent.refl _) ⟨h,by dsimp only;rw [htk];exact hl6⟩ ?_
    show l.length - (i+1)<l.length - i
    omega
   ·rw [if_pos hd] at htk
    refine b4 67 (.bool true) Z (congrArg Value.bool (by rw [decide_eq_false (p:=x.d.1=d.1∧x.d.2=d.2) fun h=>hd (Prod.ext h.1 h.2)];rfl)) ?_
    refine az <| aa <| aq Z <| ab <| bgj Z Z Z <| af Z <| df 3 Z Z Z <| af Z <| b5 Z (by omega) ?_
    refine iu Z (fun w H=>cn (cs:=cfC x) Z Z Z Z (fun j hj=>by rw [bi,j7];exact hcx (q:=4) Z w H j hj)) Z ?_
    refine b9 (fun w H=>by exact du (yr (k:=5) Z hmem w H)) ?_
    rintro ⟨A3,c3,hev,_⟩
    refine ky (cs:=cfC x) Z Z Z Z Z Z Z Z (by decide) fun gl=> ?_
    refine dx 1 Z Z Z Z Z Z Z Z Z (m:=1) (news:=cfC x) (fun w H=>(H.blk (k:=0) Z).sl Z (by decide)) (by rw [cfC,hev];simp [Value.oneCell']) (by omega) (fun _=>rfl) fun v7=> ?_
    refine b9 (fun w H=>(H.oat (k:=1) Z).form) ?_
    rintro ⟨A8,c8,rfl,_,_,_⟩
    refine af Z <| ad <| ba <| aa <| ab <| af Z <| b5 Z (by (unfold I64;omega)) <| af Z <| ad ?_
    have e1:flC cfC l6++cfC x=flC cfC (l6 ++ [x]):=by simp only [mo,flC,List.append_nil]
    have e2:l6.length+1=(l6 ++ [x]).length:=by rw [List.length_append];rfl
    rw [e1,e2]
    refine bj (i+1,l6 ++ [x],A8,c8) ⟨rfl,rfl,rfl,rfl,rfl,trivial⟩ (ac 7 [1,2,3,4,5,6] Z Z) ⟨h,by dsimp only;rw [htk,hl6]⟩ ?_
    show l.length - (i+1)<l.length - i
    omega
  ·refine cm 55 (.bool false) Z (congrArg Value.bool (decide_eq_false (by omega))) ?_
   rw [List.take_of_length_le (by omega)] at hl6
   subst hl6
   refine al Z <| bu <| av <| ax <| au <| aa <| ab <| bgi Z Z <| df 2 Z Z Z <| bgi Z Z <| ky (cs:=cfC ⟨d,nw,.slice A7 nw.length c7⟩) Z Z Z Z Z Z Z Z (by decide) fun gl=> ?_
   refine dx 1 Z Z Z Z Z Z Z Z Z (m:=1) (news:=cfC ⟨d,nw,.slice A7 nw.length c7⟩) (fun w H=>(H.blk (k:=0) Z).sl Z (by decide)) (by simp [cfC,Value.oneCell']) (by omega) (fun _=>rfl) fun v7=> ?_
   refine b9 (fun w H=>(H.oat (k:=1) Z).form) ?_
   rintro ⟨A8,c8,rfl,_,_,_⟩
   have e1:flC cfC (tw d l)++cfC ⟨d,nw,.slice A7 nw.length c7⟩=flC cfC (tw d l ++ [(⟨d,nw,.slice A7 nw.length c7⟩:Pf)]):=by simp only [mo,flC,List.append_nil]
   have e2:(tw d l).length+1=(tw d l ++ [(⟨d,nw,.slice A7 nw.length c7⟩:Pf)]).length:=by rw [List.length_append];rfl
   rw [e1,e2]
   refine bgi Z Z <| iv 4 Z Z Z Z <| ad <| m5 Z .nil (((((ac 7 [6,2,4,1] Z Z).trans (arw d l)).trans (ac 4 [1,0,2,3] Z Z)).trans (ql (A:=pF (tw d l ++ [(⟨d,nw,.slice A7 nw.length c7⟩:Pf)])) ao1)).trans (ac 3 [1,2,0] Z Z)) ?_
   exact ⟨A8,c8,tw d l ++ [(⟨d,nw,.slice A7 nw.length c7⟩:Pf)],by rw [prf,List.map_append];rfl,rfl⟩
 refine bd4 <| af Z <| bd3 <| ar ?_
 refine b6 (S:=Nat × List (List Int) × Bool × Option Addr × Nat) (fun s=> [(0,.pointer (some ⟨gw,0,none⟩)),(4,.pointer (some ⟨g4,0,none⟩)),(5,.pointer (some ⟨g5,0,none⟩)),(6,.slice none 0 0),(7,.slice s.2.2.2.1 s.2.1.length s.2.2.2.2),(8,.bool s.2.2.1),(9,.slice Aw cl.length cw),(10,.int .i64 (s.1:Int))])
  (fun s=>rD (.slice s.2.2.2.1 s.2.1.length s.2.2.2.2) s.2.1::pt g5 t_api_ID (u8s id)::pt g4 t_api_Dot [.int .i64 d.1,.int .i64 d.2]::stX gw wq wt A c l F) (fun s=>s.1≤cl.length∧Lay id cl s.2.1 s.2.2.1 s.1) (fun s=>cl.length - s.1) (0,[],false,none,0) ⟨rfl,rfl,rfl,rfl,rfl,rfl,rfl,rfl,trivial⟩ (Ent.refl _) ⟨Nat.zero_le _,⟨fun h=>(by cases h),fun _=>⟨by simp,fun x hx=>by simp at hx⟩,rfl⟩⟩ ?_
 rintro ⟨i,ids,put,A7,c7⟩ ⟨hi1,hL⟩
 dsimp only at hi1 hL ⊢
 have hlen:=hL.len
 have hlen2:ids.length≤1000001:=by rw [hlen];split <;> omega
 refine ae <| bd4 <| bgj Z Z Z <| af Z <| bd3 ?_
 by_cases h:i<cl.length
 ·refine cm 18 (.bool true) Z (congrArg Value.bool (decide_eq_true (by omega))) ?_
  obtain ⟨gA,oA,rfl⟩:=k9 (by omega)
  have ca:∀ {F':List SP} {q:Nat},nth F' q=some (all (pF l))→∀ w,Sat b F' w→∀ j,j<32→w.cell? ⟨gA,oA+i*32+j,none⟩=(u8s cl[i])[j]?:=fun {F' q} hk=>jt (F:=F') (hw hk) (fun x hx=>(hb x hx).1) h
  have hyo:=hb _ (List.getElem_mem h)
  have lp:=Lay.put (id:=id) (ids:=ids) h
  have ln:=Lay.not (ids:=ids) (fun x hx=>il (hb x hx)) (il hi) hn h
  have lw:=Lay.now (ids:=ids) (fun x hx=>il (hb x hx)) (il hi) hr h
  generalize cl[i]=y at *
  have hy:=hyo.1
  have hcmp:jd id y=zh id y:=aox (il hi) (il hyo)
  rw [hcmp] at ln lw
  cases put with
  | true =>
   refine aq Z <| ao <| aa <| ae <| ar <| ae <| ae <| b7 flo _ (by decide +kernel) (Ent.refl _) ?_
   (iterate 8 refine ay Z Zl ?_)
   refine ay Z (.inr Z) <| ay Z Zl <| ay Z Zl <| az <| aa <| al Z <| ao <| aa <| ab <| bgj Z Z Z <| b5 Z (by omega) ?_
   refine iu Z (fun w H=>cn (cs:=u8s y) Z Z Z (by rw [bg,hy];rfl) (fun j hj=>by rw [bi,j7];exact ca (q:=5) Z w H j (by rw [bg,hy] at hj;exact hj))) Z ?_
   refine ky (cs:=u8s y) Z Z Z Z Z Z Z (by rw [bg,hy];rfl) (by decide) fun gl=> ?_
   refine dx 1 Z Z Z Z Z Z Z Z Z (m:=1) (news:=u8s y) (fun w H=>(H.blk (k:=0) Z).sl (by rw [bg,hy]) (by decide)) (dt _) (by omega) (fun _=>rfl) fun v7=> ?_
   refine b9 (fun w H=>(H.oat (k:=1) Z).form) ?_
   rintro ⟨A8,c8,rfl,_,_,_⟩
   refine af Z <| ad <| ba <| aa <| ab <| af Z <| b5 Z (by (unfold I64;omega)) <| af Z <| ad ?_
   rw [xt]
   refine bj (i+1,ids ++ [y],true,A8,c8) ⟨rfl,rfl,rfl,rfl,by rw [List.length_append];rfl,rfl,rfl,rfl,trivial⟩ (by dsimp only;rw [rD,List.length_append];exact ac 7 [1,2,3,4,5,6] Z Z) ⟨h,lp hL⟩ (by dsimp only;omega)
  | false =>
   refine aq Z <| ao <| aa <| ae <| ar <| ae <| ae <| b7 flo _ (by decide +kernel) (Ent.refl _) <| ay Z Zl <| ay Z Zl <| ay Z Zl <| jm 1 Z Z Z Z Z Z (ig hi32) Z Z <| ay Z Zl <| ay Z Zl <| dj Z Z (by omega) ?_
   refine fu Z (fun w H=>cn (cs:=u8s y) Z Z Z (by rw [bg,hy];rfl) (fun j hj=>by rw [bi,j7];exact ca (q:=5) Z w H j (by rw [bg,hy] at hj;exact hj))) Z Z ?_
   refine cz Z Z Z Z (aas (x:=id) (y:=y) hi32 hy) (Ent.refl _) ?_
   by_cases hcc:zh id y<0
   ·refine b4 29 (.int .i64 (zh id y)) Z Z <| ay Z Zl <| ay Z Zl <| b4 31 (.bool true) Z (congrArg Value.bool (decide_eq_true hcc)) <| az <| aa <| aq Z <| bd4 <| af Z <| dk 1 Z Z Z Z Z Z (ig hi32) Z ?_
    refine ky (cs:=u8s id) Z Z Z Z Z Z Z (by rw [bg,hi32];rfl) (by decide) fun gl=> ?_
    refine dx 1 Z Z Z Z Z Z Z Z Z (m:=1) (news:=u8s id) (fun w H=>(H.blk (k:=0) Z).sl (by rw [bg,hi32]) (by decide)) (dt _) (by omega) (fun _=>rfl) fun v7=> ?_
    refine b9 (fun w H=>(H.oat (k:=1) Z).form) ?_
    rintro ⟨A8,c8,rfl,_,_,_⟩
    rw [xt]
    refine af Z <| bd3 <| ab <| af Z <| bd3 <| ab <| bgj Z Z Z <| b5 Z (by omega) ?_
    refine iu Z (fun w H=>cn (cs:=u8s y) Z Z Z (by rw [bg,hy];rfl) (fun j hj=>by rw [bi,j7];exact ca (q:=6) Z w H j (by rw [bg,hy] at hj;exact hj))) Z ?_
    refine ky (cs:=u8s y) Z Z Z Z Z Z Z (by rw [bg,hy];rfl) (by decide) fun gl2=> ?_
    refine dx 2 Z Z Z Z Z Z Z Z Z (m:=1) (news:=u8s y) (fun w H=>(H.blk (k:=0) Z).sl (by rw [bg,hy]) (by decide)) (dt _) (by omega) (fun _=>rfl) fun v7=> ?_
    refine b9 (fun w H=>(H.oat (k:=2) Z).form) ?_
    rintro ⟨A9,c9,rfl,_,_,_⟩
    rw [xt]
    refine af Z <| ad <| ba <| aa <| ab <| af Z <| b5 Z (by (unfold I64;omega)) <| af Z <| ad ?_
    have e2:((ids ++ [id]) ++ [y]).length=ids.length+1+1:=by rw [List.length_append,List.length_append];rfl
    refine bj (i+1,(ids ++ [id]) ++ [y],true,A9,c9) ⟨rfl,rfl,rfl,rfl,(by dsimp only;rw [e2];rfl),rfl,rfl,rfl,trivial⟩ (by dsimp only;rw [rD,e2];exact ac 8 [2,3,4,5,6,7] Z Z) ⟨h,lw hL hcc⟩ (by dsimp only;omega)
   ·refine b4 29 (.int .i64 (zh id y)) Z Z <| ay Z Zl <| ay Z Zl <| b4 31 (.bool false) Z (congrArg Value.bool (decide_eq_false hcc)) <| az <| aa <| al Z <| ao <| aa <| ab <| bgj Z Z Z <| b5 Z (by omega) ?_
    refine iu Z (fun w H=>cn (cs:=u8s y) Z Z Z (by rw [bg,hy];rfl) (fun j hj=>by rw [bi,j7];exact ca (q:=5) Z w H j (by rw [bg,hy] at hj;exact hj))) Z ?_
    refine ky (cs:=u8s y) Z Z Z Z Z Z Z (by rw [bg,hy];rfl) (by decide) fun gl=> ?_
    refine dx 1 Z Z Z Z Z Z Z Z Z (m:=1) (news:=u8s y) (fun w H=>(H.blk (k:=0) Z).sl (by rw [bg,hy]) (by decide)) (dt _) (by omega) (fun _=>rfl) fun v7=> ?_
    refine b9 (fun w H=>(H.oat (k:=1) Z).form) ?_
    rintro ⟨A8,c8,rfl,_,_,_⟩
    rw [xt]
    refine af Z <| ad <| ba <| aa <| ab <| af Z <| b5 Z (by (unfold I64;omega)) <| af Z <| ad ?_
    refine bj (i+1,ids ++ [y],false,A8,c8) ⟨rfl,rfl,rfl,rfl,by rw [List.length_append];rfl,rfl,rfl,rfl,trivial⟩ (by dsimp only;rw [rD,List.length_append];exact ac 7 [1,2,3,4,5,6] Z Z) ⟨h,ln hL hcc⟩ (by dsimp only;omega)
 ·refine cm 18 (.bool false) Z (congrArg Value.bool (decide_eq_false (by omega))) ?_
  obtain rfl:i=cl.length:=by omega
  refine al Z <| bu <| av <| ax <| au ?_
  exact i9 (ids,put,A7,c7) ⟨rfl,rfl,rfl,rfl,rfl,rfl,trivial⟩ (Ent.refl _) hL.end
end

theorem adb {α β:Type} {f:α→β} {l:List α} {m:List β} (h:l.map f=m):l.length=m.length:=by rw [← h,List.length_map]
def wd (wt:Nat) (w r:Int) (X:BL):SP:=exP (S:=Option Addr × Nat × List RB × Int × List Kp) (fun s=>xp w r s.2.2.2.1 s.2.2.2.2 s.2.2.1∧s.2.2.2.2.map (fun e=>(e.id,e.b))=X) fun s=>stR wt w r s.1 s.2.1 s.2.2.1.length s.2.2.1 []
structure RG (l:List Pf) (C:CL):Prop where
 eq:∀ d,cfm d (prf l)=cfm d C
 nd:(l.map (·.d)).Nodup
 ne:∀ e∈l,e.ids≠ []
def rgt (gw wq wt:Nat) (C:CL):SP:=exP (S:=Option Addr × Nat × List Pf) (fun s=>RG s.2.2 C) fun s=>stX gw wq wt s.1 s.2.1 s.2.2 []
theorem a8g {l:List Pf} (h:(l.map (·.d)).Nodup) {e:Pf} (he:e∈l):cfm e.d (prf l)=e.ids:=by
 induction l with
 | nil => cases he
 | cons x l ih =>
  rw [List.map_cons,List.nodup_cons] at h
  show (if x.d=e.d then x.ids else cfm e.d (prf l))=_
  rcases List.mem_cons.1 he with rfl | he
  ·exact if_pos Z
  ·rw [if_neg fun h1=>h.1 (by rw [h1];exact List.mem_map.2 ⟨e,he,rfl⟩)];exact ih h.2 he
theorem RG.len {l:List Pf} {C:CL} (h:RG l C) {L:List Wn} (hL:∀ d,cfm d C≠ []→∃ w∈L,dotW w=d):l.length≤L.length:=by
 have:=ait (l:=l.map (·.d)) (l':=L.map dotW) h.nd fun d hd=>by
  obtain ⟨e,he,rfl⟩:=List.mem_map.1 hd
  obtain ⟨w,hw,h1⟩:=hL e.d (by rw [← h.eq,a8g h.nd he];exact h.ne e he)
  exact List.mem_map.2 ⟨w,hw,h1⟩
 rwa [List.length_map,List.length_map] at this
theorem alb {d:Int × Int} {l:List Pf} {e:Pf}:e∈tw d l↔e∈l∧e.d≠d:=by simp [tw]
theorem RG.off {l:List Pf} {C:CL} (h:RG l C) (hC:(C.map (·.1)).Nodup) (d:Int × Int):RG (tw d l) (zt d C):=by
 refine ⟨fun d'=> ?_,(List.filter_sublist.map _).nodup h.nd,fun e he=>h.ne e (alb.1 he).1⟩
 rw [ala]
 split
 ·rename_i h1;subst h1;rw [nh hC]
 ·rename_i h1;rw [qu h1];exact h.eq d'
theorem RG.put {l:List Pf} {C:CL} (h:RG l C) (d:Int × Int) (id:List Int) {l':List Pf} (hl:prf l'=prf (tw d l) ++ [(d,r8 id (cfm d (prf l)))]):RG l' (zr d (r8 id (cfm d C)) C):=by
 have hk:l'.map (·.d)=(tw d l).map (·.d) ++ [d]:=by
  have h1:∀ m:List Pf,m.map (·.d)=(prf m).map (·.1):=fun m=>by rw [prf,List.map_map];rfl
  rw [h1,hl,List.map_append,h1];rfl
 have hi:∀ (id:List Int) (m:List (List Int)),r8 id m≠ []:=fun id m h0=>by
  have:id∈r8 id m:=ak8.2 Zl
  rw [h0] at this;cases this
 refine ⟨fun d'=> ?_,?_,fun e he=> ?_⟩
 ·rw [hl]
  by_cases hd:d'=d
  ·subst hd;rw [aru,wc,h.eq]
  ·rw [art _ _ _ hd,ala,if_neg hd,aax hd];exact h.eq d'
 ·rw [hk]
  refine List.nodup_append.2 ⟨(List.filter_sublist.map _).nodup h.nd,(by simp),fun a ha c hc hac=> ?_⟩
  rw [List.mem_singleton.1 hc] at hac
  obtain ⟨e,he,h1⟩:=List.mem_map.1 ha
  exact (alb.1 he).2 (h1.trans hac)
 ·have h1:(e.d,e.ids)∈prf (tw d l) ++ [(d,r8 id (cfm d (prf l)))]:=by rw [← hl];exact List.mem_map.2 ⟨e,he,rfl⟩
  rcases List.mem_append.1 h1 with h1 | h1
  ·obtain ⟨x,hx,h2⟩:=List.mem_map.1 h1
   have h3:x.ids=e.ids:=congrArg Prod.snd h2
   rw [← h3];exact h.ne x (alb.1 hx).1
  ·have h3:e.ids=r8 id (cfm d (prf l)):=congrArg Prod.snd (List.mem_singleton.1 h1)
   rw [h3];exact hi _ _
section
variable {b:World} {F:List SP} {gw wq wt gs n:Nat} {w r:Int} {V:List Int} {L:List Wn} {X:BL} {C:CL}
theorem adc {A:Option Addr} {c:Nat} {Lb:List RB} {u:Int} {kl:List Kp} (h:xp w r u kl Lb) (hX:kl.map (fun e=>(e.id,e.b))=X):Ent (stR wt w r A c Lb.length Lb F) (wd wt w r X::F) :=
 ib (G:=fun s:Option Addr × Nat × List RB × Int × List Kp=>stR wt w r s.1 s.2.1 s.2.2.1.length s.2.2.1 []) (p:=fun s=>xp w r s.2.2.2.1 s.2.2.2.2 s.2.2.1∧s.2.2.2.2.map (fun e=>(e.id,e.b))=X) (A,c,Lb,u,kl) ⟨h,hX⟩
theorem pj {A:Option Addr} {c:Nat} {l:List Pf} (h:RG l C):Ent (stX gw wq wt A c l F) (rgt gw wq wt C::F) :=
 ib (G:=fun s:Option Addr × Nat × List Pf=>stX gw wq wt s.1 s.2.1 s.2.2 []) (p:=fun s=>RG s.2.2 C) (A,c,l) h
theorem a1f {C':CL} (h:∀ d,cfm d C=cfm d C'):Ent (rgt gw wq wt C::F) (rgt gw wq wt C'::F):=pk 0 Z (fun _ ⟨s,hs,hh⟩=>⟨s,⟨fun d=>(hs.eq d).trans (h d),hs.nd,hs.ne⟩,hh⟩) Z
theorem a5p {v lq:Value} {M:List Wn} {A A':Option Addr} {c c':Nat} {Lb:List RB} {u:Int} {kl:List Kp} {l:List Pf} (h1:QI n V L) (h2:M.map nW=L) (h3:xp w r u kl Lb) (h4:kl.map (fun e=>(e.id,e.b))=X) (h5:RG l C) :
  Ent (stW wq v lq V M (stR wt w r A' c' Lb.length Lb (stX gw wq wt A c l F))) (rgt gw wq wt C::rqu wq n V L::wd wt w r X::F) :=
 (((akw h1 h2).trans (ac 7 [1,2,3,0,4,5,6] Z Z)).trans (((adc h3 h4).trans (ac 5 [2,3,4,0,1] Z Z)).trans (pj h5))).trans (ac 3 [0,2,1] Z Z)
theorem SC.open3 {P:Program} {f:Nat} {args:List Value} {R:Value→List SP→Prop} (h:∀ v lq M A' c' Lb u kl A c l,QI n V L→M.map nW=L→xp w r u kl Lb→kl.map (fun e=>(e.id,e.b))=X→RG l C→SC P f args b (stW wq v lq V M (stR wt w r A' c' Lb.length Lb (stX gw wq wt A c l F))) R):SC P f args b (rgt gw wq wt C::rqu wq n V L::wd wt w r X::F) R:=by
 refine SC.opn ?_
 rintro ⟨A,c,l⟩ h5
 refine SC.ent (G:=wd wt w r X::(stX gw wq wt A c l (rqu wq n V L::F))) (SC.opn ?_) (ac 5 [4,0,1,2,3] Z Z)
 rintro ⟨A',c',Lb,u,kl⟩ ⟨h3,h4⟩
 refine SC.ent (G:=rqu wq n V L::(stR wt w r A' c' Lb.length Lb (stX gw wq wt A c l F))) (SC.opn ?_) (ac 7 [6,0,1,2,3,4,5] Z Z)
 rintro ⟨v,lq,M⟩ ⟨h1,h2⟩
 exact h v lq M A' c' Lb u kl A c l h1 h2 h3 h4 h5
theorem a1g (h:ah2 w r):SC Tryz.prog vc [.int .i64 w,.int .i64 r] b F (fun v F'=>∃ wt,v = .tuple ⟨[.pointer (some ⟨wt,0,none⟩),.int .i64 0]⟩∧F'=wd wt w r []::F):=by
 refine (a0q h).out ?_
 rintro v _ ⟨gr,rfl,rfl⟩
 exact ⟨_,adc (A:=none) (c:=0) (Lb:= []) (u:=0) (kl:= []) (xp.nil w (by have:=h.2.2.1;omega)) rfl,gr,rfl,rfl⟩
set_option maxRecDepth 20000 in
theorem a1h:SC Tryz.prog adk [.pointer (some ⟨wq,0,none⟩),.pointer (some ⟨wt,0,none⟩),.slice none 0 0] b F (fun v F'=>∃ gw,v = .tuple ⟨[.pointer (some ⟨gw,0,none⟩),.int .i64 0]⟩∧F'=rgt gw wq wt []::F):=by
 refine bf Tryz.func40 Z Z Z <| bd4 <| bgi Z Z <| a8r <| bgj Z Z Z <| cq Z Z Z Z Z fun gw=>af Z <| bd3 <| ae <| bd4 <| af Z <| bd3 <| ar <| b6 (S:=Unit) (fun _=> [(8,.pointer (some ⟨gw,0,none⟩)),(2,.slice none 0 0),(9,.int .i64 0)]) (fun _=>_) (fun _=>True) (fun _=>0) () ⟨rfl,rfl,rfl,trivial⟩ (Ent.refl _) trivial ?_
 rintro ⟨⟩ _
 refine ae <| bd4 <| bgj Z Z Z <| af Z <| bd3 <| al Z <| bu <| av <| ax <| au <| aa <| bd4 <| bgj Z Z Z <| bd3 <| aj ?_
 refine ai Z (.tmp Z (.tmp Z .nil)) ((((ji (G:= [])).trans (eh ja 3 Z)).trans (ac 3 [2,0,1] Z Z)).trans (pj (A:=none) (c:=0) (l:= []) (C:= []) ⟨fun _=>rfl,List.nodup_nil,fun e he=>(by cases he)⟩)) ?_
 exact ⟨gw,rfl,rfl⟩
theorem avs {kl:List Kp} (hX:kl.map (fun e=>(e.id,e.b))=X):ah8 X=r7 kl:=by rw [← hX];exact avn kl
theorem at1 {id xs:List Int} (hf:km id X=none) (h0:pi X id xs w r=0):ah8 X+xs.length≤r:=by
 unfold pi at h0
 rw [hf] at h0
 by_cases h1:4096<xs.length
 ·rw [if_pos h1] at h0;cases h0
 ·rw [if_neg h1] at h0
  by_cases h2:dg xs w=id
  ·rw [if_pos h2] at h0
   by_cases h3:r<ah8 X+xs.length
   ·exact absurd (show (10:Int)=0 by rw [← h0];exact (if_pos h3).symm) (by decide)
   ·omega
  ·rw [if_neg h2] at h0;cases h0
theorem a1i {Lb:List RB} {u:Int} {kl:List Kp} {id xs:List Int} (h:xp w r u kl Lb) (hX:kl.map (fun e=>(e.id,e.b))=X) (hid:idOk id):ad2 id xs w r Lb=pi X id xs w r∧isM id Lb=(km id X).isSome:=by
 obtain ⟨f1,f2⟩:=h.find hid
 have hfx:=aix id kl
 rw [hX] at hfx
 have hs:xx Lb=ah8 X:=by rw [h.sum,avs hX];exact h.st.us
 cases hM:isM id Lb with
 | true =>
  obtain ⟨e,hf,h1,h2⟩:=f1 hM
  rw [hf] at hfx
  have hfx':km id X=some e.b:=hfx
  have hbA:bAt id Lb=e.b:=by simp only [bAt,List.getElem?_eq_getElem h1];exact h2.symm
  refine ⟨?_,by rw [hfx'];rfl⟩
  unfold ad2 pi
  rw [hM,hfx',hbA];rfl
 | false =>
  rw [f2 hM] at hfx
  have hfx':km id X=none:=hfx
  refine ⟨?_,by rw [hfx'];rfl⟩
  unfold ad2 pi
  rw [hM,hfx',hs];rfl
theorem a4a {Lb:List RB} {u:Int} {kl:List Kp} {id xs:List Int} (h:xp w r u kl Lb) (hX:kl.map (fun e=>(e.id,e.b))=X) (hid:idOk id):s8 id xs w r Lb=vj X id xs w r:=by
 obtain ⟨h1,h2⟩:=a1i (xs:=xs) h hX hid
 rw [s8,vj,h1,h2]
 cases km id X <;> simp
theorem a8h {Lb:List RB} {u:Int} {kl:List Kp} {A:Option Addr} {c:Nat} {id xs:List Int} {vb:Value} (h:xp w r u kl Lb) (hX:kl.map (fun e=>(e.id,e.b))=X) (hr:r≤67108864) (hid:idOk id) (hb:∀ w,Sat b F w→VL (Value.int .u8) w vb xs) (hx:ii xs) (hlen:xs.length≤4100) (hm:X.length≤100000) :
  SC Tryz.prog jq [.pointer (some ⟨wt,0,none⟩),idV id,vb] b (stR wt w r A c Lb.length Lb F) (fun v F'=>v = .tuple ⟨[.bool (vj X id xs w r),.int .i64 (pi X id xs w r)]⟩∧∃ A' c' Lb' u' kl',xp w r u' kl' Lb'∧kl'.map (fun e=>(e.id,e.b))=yt X id xs w r∧F'=stR wt w r A' c' Lb'.length Lb' F):=by
 have hlb:Lb.length≤100000:=by rw [h.len,adb hX];exact hm
 obtain ⟨e1,e2⟩:=a1i (xs:=xs) h hX hid
 have e3:=a4a (xs:=xs) h hX hid
 refine (axg h hr hid hb hx hlen hlb).mono ?_
 rintro v F' ⟨h1,A',c',Lb',hF,hf,ht⟩
 rw [e1,e3] at h1
 refine ⟨h1,A',c',Lb',?_⟩
 cases hB:vj X id xs w r with
 | false =>
  rw [e3] at hf
  have:=hf hB
  subst this
  exact ⟨u,kl,h,by rw [yt,hB];exact hX,hF⟩
 | true =>
  rw [e3] at ht
  obtain ⟨v2,hv2,rfl⟩:=ht hB
  have hB':=hB
  unfold vj at hB'
  rw [Bool.and_eq_true,decide_eq_true_eq] at hB'
  obtain ⟨hn,h0⟩:=hB'
  have hfn:km id X=none:=by cases hh:km id X with
   | none => rfl
   | some _ => rw [hh] at hn; cases hn
  have hfk:kw id kl=none:=by
   have hfx:=aix id kl
   rw [hX,hfn] at hfx
   cases hk:kw id kl with
   | none => rfl
   | some _ => rw [hk] at hfx; cases hfx
  have hdg:=(am7 h0).2
  have hur:u+xs.length≤r:=by
   have hu:u=ah8 X:=by rw [avs hX];exact h.st.us
   rw [hu];exact at1 hfn h0
  exact ⟨_,_,h.put (g:=0) (v1:= .bool false) hdg.symm hfk hx hlen hur hv2,by rw [List.map_append,hX,yt,if_pos hB];rfl,hF⟩
theorem a1j {X:BL} (hX:∀ e∈X,ii e.1) {M M':List (List Int)} (h1:M.Pairwise leM) (h2:M.Perm (X.map (·.1))) (h3:M'.Pairwise leM) (h4:M'.Perm (X.map (·.1))):M=M':=by
 have hb:∀ a∈X.map (·.1),ii a:=fun a ha=>by
  obtain ⟨e,he,rfl⟩:=List.mem_map.1 ha
  exact hX e he
 exact List.Perm.eq_of_pairwise (fun a c ha hc x y=>arm (hb a (h2.subset ha)) (hb c (h4.subset hc)) x y) h1 h3 (h2.trans h4.symm)
theorem bd1 (hm:X.length≤100000):SC Tryz.prog wy [.pointer (some ⟨gs,0,none⟩)] b (sto gs w r X::F) (fun v F'=>∃ A c M,v = .slice A M.length c∧M.Pairwise leM∧M.Perm (X.map (·.1))∧(∀ e∈X,idOk e.1)∧F'=rN A c M.length M::sto gs w r X::F):=by
 refine SC.opn ?_
 rintro ⟨gm,u,l⟩ ⟨hst,hX⟩
 dsimp only at hst hX
 show SC _ _ _ _ (stB gs gm w r u l F) _
 have hok:∀ e∈l,idOk e.id:=fun e he=>by rw [hst.ids e he];exact akz _ _
 have hl:l.length≤100000:=by rw [adb hX];exact hm
 have hp:Ent (stB gs gm w r u l F) (sto gs w r X::F):=ib (G:=fun s:Nat × Int × List Kp=>stB gs s.1 w r s.2.1 s.2.2 []) (p:=fun s=>StI w r s.2.1 s.2.2∧s.2.2.map (fun e=>(e.id,e.b))=X) (gm,u,l) ⟨hst,hX⟩
 refine (bdx hok hl).out ?_
 rintro v _ ⟨A,c,M,h1,h2,h3,rfl⟩
 refine ⟨_,ik hp,A,c,M,h1,h2,?_,fun e he=> ?_,rfl⟩
 ·rw [← hX,List.map_map];exact h3
 ·rw [← hX] at he
  obtain ⟨x,hx,rfl⟩:=List.mem_map.1 he
  exact hok x hx
theorem a8i (hm:X.length≤100000):SC Tryz.prog oc [.pointer (some ⟨wt,0,none⟩)] b (wd wt w r X::F) (fun v F'=>∃ A c M,v = .slice A M.length c∧M.Pairwise leM∧M.Perm (X.map (·.1))∧F'=rN A c M.length M::wd wt w r X::F):=by
 refine SC.opn ?_
 rintro ⟨A',c',Lb,u,kl⟩ ⟨h3,h4⟩
 dsimp only at h3 h4
 show SC _ _ _ _ (stR wt w r A' c' Lb.length Lb F) _
 have hlb:Lb.length≤100000:=by rw [h3.len,adb h4];exact hm
 refine (a0s h3.i32 Z hlb).out ?_
 rintro v _ ⟨A,c,h1,rfl⟩
 refine ⟨_,ik (adc h3 h4),A,c,Lb.map (·.id),by rw [List.length_map];exact h1,h3.so,?_,by rw [List.length_map]⟩
 rw [← h4,List.map_map];exact h3.ids
end

section
variable {b:World} {F:List SP} {gw wq wt n:Nat} {w r:Int} {V:List Int} {L:List Wn} {X:BL} {C:CL} {e:Ev} {s:Int} {d:Int × Int} {id xs:List Int} {vb:Value}
theorem anb (hq:QI n V L):SC Tryz.prog kh [.pointer (some ⟨wq,0,none⟩),ry d] b (rqu wq n V L::F) (fun u F'=>∃ y s is,Hs d L y s is∧u = .tuple ⟨[.agg ⟨wsC y s⟩,.bool is]⟩∧F'=rZ y.dv y.deps::rD y.rv y.refs::rqu wq n V L::F):=by
 refine (a0k).out ?_
 rintro u _ (⟨h1,h2,rfl⟩ | ⟨x,dv,rv,h1,h2,rfl⟩)
 ·exact ⟨_,arf,ev0,0,false,avh h1,h2,rfl⟩
 ·exact ⟨_,Ent.refl _,x.e.own dv rv,x.src,true,avg hq h1 dv rv,h2,rfl⟩
theorem a8j (hr:r≤67108864) (hid:idOk id) (hb:∀ w,Sat b F w→VL (Value.int .u8) w vb xs) (hx:ii xs) (hlen:xs.length≤4100) (hm:X.length≤100000) :
  SC Tryz.prog jq [.pointer (some ⟨wt,0,none⟩),idV id,vb] b (wd wt w r X::F) (fun v F'=>v = .tuple ⟨[.bool (vj X id xs w r),.int .i64 (pi X id xs w r)]⟩∧F'=wd wt w r (yt X id xs w r)::F):=by
 refine SC.opn ?_
 rintro ⟨A',c',Lb,u,kl⟩ ⟨h3,h4⟩
 refine (a8h (A:=A') (c:=c') h3 h4 hr hid hb hx hlen hm).out ?_
 rintro v _ ⟨h1,A2,c2,Lb2,u2,kl2,h5,h6,rfl⟩
 exact ⟨_,adc h5 h6,h1,rfl⟩
set_option maxRecDepth 20000 in
set_option maxHeartbeats 2000000 in
theorem a1k (he:∀ w,Sat b F w→ER w e) (hew:EW e) (hl:EvL e) (hd:e.deps.length≤1000000) (hr:e.refs.length≤1000000) :
  SC Tryz.prog wx [.pointer (some ⟨gw,0,none⟩),evV e,.int .i64 s] b (rgt gw wq wt C::rqu wq n V L::wd wt w r X::F) (fun u F'=>u = .tuple ⟨[.bool (aa1 V L w e s),.int .i64 (acs V L w e s)]⟩∧F'=rgt gw wq wt C::rqu wq n V (qe V L w e s)::wd wt w r X::F):=by
 refine SC.open3 ?_
 intro v lq M A' c' Lb u kl A c l hq hM hR hX hC
 have h32:=hew.l32
 have el:=cu h32
 subst hM
 refine bf Tryz.func43 Z Z Z <| bt (fun w H=>(H.oat (k:=1) Z).form) ?_
 rintro ⟨Av,cv,rfl,_,_,_⟩
 refine bd4 <| cq Z Z Z Z Z fun g4=>bgi Z Z <| bd3 <| ae <| b7 flo (pt g4 bo (evC e)::pt gw ic (rgC wq wt A c l.length)::pt wq io [.slice Av V.length cv,lq]::pt wt j5 [.int .i64 w,.int .i64 r,.slice A' Lb.length c']::F) (by decide +kernel) (ac 11 [0,8,1,5] Z Z) ?_
 refine jm 0 Z Z Z Z Z Z (fd (by rw [el];rfl)) Z Z ?_
 refine ay Z Zl <| ay Z Zl <| ay Z Zl <| de 1 Z Z Z Z <| ay Z Zl <| ay Z Zl <| de 2 Z Z Z Z <| ay Z Zl <| ay Z Zl <| ay Z Zl <| ay Z Zl <| de 1 Z Z Z Z <| ay Z Zl <| ay Z Zl <| de 3 Z Z Z Z <| cz Z Z Z Z (a0b (n:=(V.length:Int)) (w0:=w) (up he (ac 11 [] Z Z)) hew hl) (ac 11 [0,8,1,5] Z Z) <| ay Z Zl <| az <| aa <| ae <| bd4 <| bgi Z Z <| bd3 ?_
 by_cases hc:qt e V.length w=0
 rotate_left
 ·refine cm 27 (.bool true) Z (congrArg Value.bool (by rw [decide_eq_false hc];rfl)) ?_
  refine aq Z <| bd4 <| bgj Z Z Z <| bd3 <| aj <| ag <| ai Z (.tmp Z (.tmp Z .nil)) ((ac 11 [1,2,3,4,5,6,7,8,9,10] Z Z).trans (a5p hq Z hR hX hC)) ?_
  rw [aa1,acs,qe,if_neg hc,if_neg hc,if_neg hc]
  exact ⟨rfl,rfl⟩
 refine cm 27 (.bool false) Z (congrArg Value.bool (by rw [decide_eq_true hc];rfl)) ?_
 refine al Z <| ao <| aa <| ae <| b7 flo (pt g4 bo (evC e)::pt gw ic (rgC wq wt A c l.length)::F) (by decide +kernel) (ac 11 [0,8] Z Z) <| ay Z Zl <| ay Z Zl <| ay Z Zl <| de 1 Z Z Z Z ?_
 refine jm 0 Z Z Z Z Z Z (fd (by rw [el];rfl)) Z Z ?_
 refine ay Z Zl <| dz Z Z Z Z ((a7r (gw:=wq) (n:=n) (V:=V) (M:=M) (v:= .slice Av V.length cv) (l:=lq) (F:=pt g4 bo (evC e)::stR wt w r A' c' Lb.length Lb (stX gw wq wt A c l F)) hq (up he (ac 7 [] Z Z)) h32 hd hr).ent (ac 11 [1,2,3,4,0,5,6,7,8,9,10] Z Z)) ?_
 rintro _ _ ⟨rfl,lq',M',rfl,hM'⟩
 refine ⟨ac 11 [4,8] Z rfl,(ay Z Zl <| ay Z Zl <| ay Z Zl <| ay Z Zl <| az <| aa <| aj ?_)⟩
 refine ai Z (.tmp Z (.tmp Z .nil)) ((ac 11 [0,1,2,3,5,6,7,8,9,10] Z Z).trans (a5p (L:=xw V (M.map nW) e s) (by have:=hq.add (s:=s) hew hr;exact this) hM' hR hX hC)) ?_
 rw [aa1,acs,qe,if_pos hc,if_pos hc,if_pos hc]
 exact ⟨rfl,rfl⟩
end

section
variable {b:World} {F:List SP} {gw wq wt n:Nat} {w r:Int} {V:List Int} {L:List Wn} {X:BL} {C:CL} {d:Int × Int} {id xs:List Int} {vb:Value}
set_option maxRecDepth 20000 in
set_option maxHeartbeats 4000000 in
theorem axm (hC:CK C) (hR:RC' C) (hL:∀ d,cfm d C≠ []→∃ w∈L,dotW w=d) (hLn:L.length≤100000) (hid:idOk id) (hr:r≤67108864) (hb:∀ w,Sat b F w→VL (Value.int .u8) w vb xs) (hx:ii xs) (hlen:xs.length≤4100) (hm:X.length≤100000) (hq:QI n V L) :
  SC Tryz.prog vr [.pointer (some ⟨gw,0,none⟩),ry d,idV id,vb] b (rgt gw wq wt C::rqu wq n V L::wd wt w r X::F) (fun u F'=>u = .tuple ⟨[.bool (lh L C X d id xs w r),.int .i64 (yf L X d id xs w r)]⟩∧F'=rgt gw wq wt (mz L C X d id xs w r)::rqu wq n V L::wd wt w r (ol L X d id xs w r)::F):=by
 refine SC.opn ?_
 rintro ⟨A,c,l⟩ hG
 dsimp only at hG
 have i32:=hid.1
 have hln:=hG.len hL
 show SC _ _ _ _ (stX gw wq wt A c l (rqu wq n V L::wd wt w r X::F)) _
 refine bf Tryz.func46 Z Z Z <| bd4 <| cq Z Z Z Z Z fun g5=>cq Z Z Z Z Z fun g6=>bgi Z Z <| bd3 <| ae ?_
 refine wv (S':=Nat × Ev × Int × Bool) flo 9 0 0 [0,1,2,3,4,5,6,7,8] (OT.pre [10,11] .nil) (pt g5 t_api_Dot [.int .i64 d.1,.int .i64 d.2]::pt gw ic (rgC wq wt A c l.length)::F) Z (by decide +kernel) Z (ac 7 [1,2] Z Z) (fun q=> [(0,.pointer (some ⟨gw,0,none⟩)),(3,vb),(5,.pointer (some ⟨g5,0,none⟩)),(6,.pointer (some ⟨g6,0,none⟩)),(10,.pointer (some ⟨q.1,0,none⟩)),(21,.agg ⟨wsC q.2.1 q.2.2.1⟩),(22,.bool q.2.2.2)])
  (fun q=>pt q.1 b8 (wsC ev0 0)::rZ q.2.1.dv q.2.1.deps::rD q.2.1.rv q.2.1.refs::pt g6 t_api_ID (u8s id)::pt g5 t_api_Dot [.int .i64 d.1,.int .i64 d.2]::stX gw wq wt A c l (rqu wq n V L::wd wt w r X::F)) (fun q=>Hs d L q.2.1 q.2.2.1 q.2.2.2) (fun q _=>ac 10 [4,5] Z Z) ?_ (fun J=> ?_)
 ·rintro ⟨g10,y,s,is⟩ hs
  dsimp only at hs ⊢
  have h32:=hs.ew.l32
  obtain ⟨hrf,hno⟩:=hs.ref id
  refine mg 10 2 .nil Z Z ?_
  skip
  refine ie (fun w H=>(H.oat (k:=2) Z).form) ?_
  rintro ⟨A2,c2,hrv,_,_,_⟩
  refine ie (ux (e:=y) (i:=1) (j:=2) Z Z) fun hone=> ?_
  refine qr (vs:=wsC y s) 0 Z Z Z Z Z Z Z Z (ec h32) (ng hone.1 hone.2) (by rw [ec h32];rfl) (ac 10 [4,5] Z Z) ?_
  refine ay Z Zl <| az <| vp ?_
  cases is with
  | false =>
   refine aa <| ae <| ar <| bd4 <| bgj Z Z Z <| bd3 <| aq Z <| bd4 <| bgi Z Z <| bd3 <| aj <| ap <| ag <| ai Z (.tmp Z (.tmp Z .nil)) ((ac 10 [5,6,7,8,9] Z Z).trans (pj hG)) ?_
   have hB:lh L C X d id xs w r=false:=by rw [lh,hrf];rfl
   refine ⟨by rw [hB,yf,if_pos (by rw [hno];rfl)];rfl,?_⟩
   rw [ol,hrf,mz,hB];rfl
  | true =>
  refine aa <| ae <| ar <| bd4 <| bgj Z Z Z <| bd3 <| al Z <| bd4 <| bgi Z Z <| kr 0 Z Z Z Z Z Z ((ag8 h32).trans (congrArg some hrv)) Z <| dk 3 Z Z Z Z Z Z (ig i32) Z ?_
  refine bh Z Z Z (ao5 (fun w H=>by rw [← hrv];exact (H.oat (k:=2) Z).sl) hs.ew.r32 i32) ?_
  by_cases hin:id∈y.refs
  rotate_left
  ·rw [decide_eq_false hin] at hrf ⊢
   refine bgi Z Z <| bd3 <| aq Z <| bd4 <| bgi Z Z <| bd3 <| aj <| ap <| ag <| ai Z (.tmp Z (.tmp Z .nil)) ((ac 10 [5,6,7,8,9] Z Z).trans (pj hG)) ?_
   have hB:lh L C X d id xs w r=false:=by rw [lh,hrf];rfl
   refine ⟨by rw [hB,yf,if_neg (by rw [hno];decide),if_pos (show ahk L d id=false from hrf)];rfl,?_⟩
   rw [ol,hrf,mz,hB];rfl
  rw [decide_eq_true hin] at hrf ⊢
  have hX':ol L X d id xs w r=yt X id xs w r:=by rw [ol,hrf];rfl
  have hE':yf L X d id xs w r=pi X id xs w r:=by rw [yf,if_neg (by rw [hno];decide),if_neg (by rw [hrf];decide)]
  refine bgi Z Z <| bd3 <| al Z <| ao <| ba <| aa <| ae <| b7 flo (pt g6 t_api_ID (u8s id)::pt gw ic (rgC wq wt A c l.length)::F) (by decide +kernel) (ac 10 [3,5] Z Z) <| ay Z Zl <| ay Z Zl <| ay Z Zl <| de 1 Z Z Z Z <| jm 0 Z Z Z Z Z Z (ig i32) Z Z <| ay Z Zl <| dz Z Z Z Z ((a8j (wt:=wt) (w:=w) (r:=r) (X:=X) (F:=pt g10 b8 (wsC y s)::rZ y.dv y.deps::rD y.rv y.refs::pt g6 t_api_ID (u8s id)::pt g5 t_api_Dot [.int .i64 d.1,.int .i64 d.2]::stX gw wq wt A c l (rqu wq n V L::F)) hr hid (up hb (ac 9 [] Z Z)) hx hlen hm).ent (ac 10 [9,0,1,2,3,4,5,6,7,8] Z Z)) ?_
  rintro _ _ ⟨rfl,rfl⟩
  refine ⟨ac 10 [4,6] Z rfl,(agp (ac 10 [1,2,3,4,5,6,7,8,9,0] Z Z) ?_)⟩
  (iterate 5 refine ay Z Zl ?_)
  refine az <| aa <| ae <| ae ?_
  by_cases he:pi X id xs w r=0
  rotate_left
  ·refine b7 flo _ (by decide +kernel) (Ent.refl _) <| ay Z Zl <| ay Z Zl <| ay Z Zl ?_
   refine b4 45 (.bool true) Z (congrArg Value.bool (by rw [decide_eq_false he];rfl)) ?_
   refine ay Z Zl <| ay Z Zl <| ay Z (.inr Z) <| ay Z Zl <| ay Z (.inr Z) <| ay Z Zl <| az <| aa <| aq Z <| bd4 <| bgj Z Z Z <| bd3 <| aj <| ag <| ai Z (.tmp Z (.tmp Z .nil)) ((ac 10 [5,6,7,8,9] Z Z).trans (pj hG)) ?_
   have hB:lh L C X d id xs w r=false:=by rw [lh,decide_eq_false he];simp
   refine ⟨by rw [hB,hE'];rfl,?_⟩
   rw [hX',mz,hB];rfl
  refine b7 flo (pt g6 t_api_ID (u8s id)::pt g5 t_api_Dot [.int .i64 d.1,.int .i64 d.2]::F) (by decide +kernel) (ac 10 [3,4] Z Z) <| ay Z Zl <| ay Z Zl <| ay Z Zl ?_
  refine b4 45 (.bool false) Z (congrArg Value.bool (by rw [decide_eq_true he];rfl)) ?_
  refine ay Z Zl <| de 1 Z Z Z Z <| cz Z Z Z Z ((qg (gw:=gw) (wq:=wq) (wt:=wt) (A:=A) (c:=c) (l:=l) (d:=d) (F:=pt g10 b8 (wsC y s)::rZ y.dv y.deps::rD y.rv y.refs::pt g6 t_api_ID (u8s id)::pt g5 t_api_Dot [.int .i64 d.1,.int .i64 d.2]::rqu wq n V L::wd wt w r (yt X id xs w r)::F)).at (ac 10 [5,6,7,0,1,2,3,4,8,9] Z Z) (ac 10 [3,4,5,6,7,0,1,2,8,9] Z Z)) (ac 10 [3,4] Z Z) <| jm 0 Z Z Z Z Z Z (ig i32) Z Z ?_
  refine cz Z Z Z Z (ao5 (l:=cfm d C) (fun w H=>by rw [← hG.eq d];exact ak9 (k:=7) Z w H) (fun a ha=>((hC d).1 a ha).1) i32) (ac 10 [3,4] Z Z) ?_
  by_cases hf:id∈cfm d C
  ·rw [decide_eq_true hf]
   refine ay Z Zl <| az <| aa <| aq Z <| bd4 <| bgj Z Z Z <| bd3 <| aj <| ag <| ai Z (.tmp Z (.tmp Z .nil)) ((ac 10 [5,6,7,8,9] Z Z).trans (pj hG)) ?_
   have hB:lh L C X d id xs w r=false:=by rw [lh,decide_eq_true hf];simp
   refine ⟨by rw [hB,hE',he];rfl,?_⟩
   rw [hX',mz,hB];rfl
  rw [decide_eq_false hf]
  refine ay Z Zl <| az ?_
  have hB:lh L C X d id xs w r=true:=by rw [lh,hrf,decide_eq_true he,decide_eq_false hf];rfl
  refine aa <| al Z <| ao <| aa <| bd4 <| af Z <| df 4 Z Z Z <| dk 3 Z Z Z Z Z Z (ig i32) Z ?_
  refine bq Z Z Z ((arx (gw:=gw) (wq:=wq) (wt:=wt) (A:=A) (c:=c) (l:=l) (d:=d) (id:=id) (F:=rqu wq n V L::wd wt w r (yt X id xs w r)::F) (by rw [hG.eq];exact (hC d).1) hid (by rw [hG.eq];exact hR d) (by rw [hG.eq];exact hf) (by rw [hG.eq];exact (hC d).2) (by omega)).ent (ac 10 [5,6,7,8,9] Z Z)) ?_
  rintro _ _ ⟨A9,c9,l9,h9,rfl⟩
  refine a8r <| bgi Z Z <| bd3 <| aj ?_
  have hG9:=hG.put d id h9
  refine ai Z (.tmp Z (.tmp Z .nil)) (pj hG9) ?_
  refine ⟨by rw [hB,hE',he];rfl,?_⟩
  rw [hX',mz,if_pos hB]
 ·refine az <| ma 0 5 (R2:= [5,6,7,8]) Z Z (by decide +kernel) Z (ac 7 [1,2] Z Z) <| ay Z Zl <| ay Z Zl <| ay Z Zl <| de 1 Z Z Z Z <| de 0 Z Z Z Z <| az ?_
  refine uh (R2:= [6,7,8]) Z (by decide +kernel) Z Z (ac 7 [1,2] Z Z) ?_ ?_
  ·refine m6 Z Z Z Z Z Z (ac 7 [1,2] Z Z) fun g10=>az <| aht 5 4 Z Z (ac 8 [2,3] Z Z) <| dz Z Z Z Z ((anb (wq:=wq) (n:=n) (V:=V) (L:=L) (d:=d) (F:=pt g10 b8 (wsC ev0 0)::pt g6 t_api_ID (u8s id)::pt g5 t_api_Dot [.int .i64 d.1,.int .i64 d.2]::stX gw wq wt A c l (wd wt w r X::F)) hq).ent (ac 8 [6,0,1,2,3,4,5,7] Z Z)) ?_
   rintro _ _ ⟨y,s,is,hs,rfl,rfl⟩
   refine ⟨ac 10 [5,6] Z rfl,(ay Z Zl <| ay Z Zl <| ay Z Zl <| az ?_)⟩
   exact J (g10,y,s,is) _ _ hs ⟨rfl,rfl,rfl,rfl,rfl,rfl,rfl,trivial⟩ (ac 10 [3,0,1,4,5,6,7,8,2,9] Z Z)
  ·refine dz Z Z Z Z ((anb (wq:=wq) (n:=n) (V:=V) (L:=L) (d:=d) (F:=pt g6 t_api_ID (u8s id)::pt g5 t_api_Dot [.int .i64 d.1,.int .i64 d.2]::stX gw wq wt A c l (wd wt w r X::F)) hq).ent (ac 7 [5,0,1,2,3,4,6] Z Z)) ?_
   rintro _ _ ⟨y,s,is,hs,rfl,rfl⟩
   refine ⟨ac 9 [4,5] Z rfl,(az <| ma 6 3 (R2:= []) Z Z (by decide +kernel) Z (ac 9 [4,5] Z Z) <| ay Z Zl <| ay Z Zl <| ay Z Zl <| az <| ww Z (by decide +kernel) Z (ac 9 [4,5] Z Z) <| m6 Z Z Z Z Z Z (ac 9 [4,5] Z Z) fun g10=>az ?_)⟩
   exact J (g10,y,s,is) _ _ hs ⟨rfl,rfl,rfl,rfl,rfl,rfl,rfl,trivial⟩ (ac 10 [0,1,2,4,5,6,7,8,3,9] Z Z)
end

section
variable {b:World} {F:List SP} {gw wq wt n:Nat} {w r:Int} {V:List Int} {L:List Wn} {X:BL} {C:CL} {D:List Wn}
theorem ade {k:Nat} {bk off c i j:Nat} (hk:nth F k=some (rWs (.slice (some ⟨bk,off,none⟩) D.length c) D)) (h32:∀ m∈D,m.e.id.length=32) (hi:i<D.length) (hj:j<40):∀ w,Sat b F w→w.cell? ⟨bk,off+i*40+j,none⟩=(waC D[i])[j]?:=fun w H=>lr (H.oat hk).sl (fun a ha=>ec (h32 a ha)) hi hj
theorem a1l {x:Wn} (h:x.e.id.length=32) {j:Nat} (hj:j<39):(waC x)[j]? = (evC x.e)[j]?:=by
 show (evC x.e++_)[j]? = _
 rw [List.getElem?_append_left (by rw [cu h];exact hj)]
theorem a4b {x:Wn} (h:x.e.id.length=32):(waC x)[39]? = some (.int .i64 x.src):=by
 show (evC x.e ++ [_])[39]? = _
 rw [List.getElem?_append_right (by rw [cu h];exact Nat.le_refl _),cu h];rfl
set_option maxRecDepth 20000 in
set_option maxHeartbeats 4000000 in
theorem at2 {v lq:Value} {M:List Wn} (hq:QI n V L) (hML:M.map nW=L) (hC:CK C) (hM:(ir L C).length≤60000000):SC Tryz.prog uy [.pointer (some ⟨gw,0,none⟩)] b (rgt gw wq wt C::stW wq v lq V M F) (fun u F'=>∃ A c,u = .slice A (ir L C).length c∧F'=rWt A c (ir L C).length (ir L C)::rgt gw wq wt C::stW wq v lq V M F):=by
 have hqM:QI n V (M.map nW):=by rw [hML];exact hq
 refine SC.opn ?_
 rintro ⟨Ag,cg,l⟩ hG
 dsimp only at hG
 show SC _ _ _ _ (stX gw wq wt Ag cg l (stW wq v lq V M F)) _
 refine bf Tryz.func51 Z Z Z <| bd4 <| af Z <| a8r <| af Z <| a8r <| bgj Z Z Z <| df 0 Z Z Z <| bq Z Z Z ((aot (gw:=wq) (n:=n) (V:=V) (M:=M) (v:=v) (l:=lq) hqM).ent (ac 7 [3,4,5,6,0,1,2] Z Z)) ?_
 rintro v4 _ ⟨D,hD,rfl⟩
 rw [hML] at hD
 refine b9 (fun w H=>(H.oat (k:=0) Z).form) ?_
 rintro ⟨A0,c0,rfl,kc0,_,k3⟩
 have hDe:∀ x∈D,EW x.e∧j8 (dotW x)∧x.e.refs.length≤1000000:=fun x hx=>by
  have hm:nW x∈L:=by rw [← hD];exact List.mem_map.2 ⟨x,hx,rfl⟩
  exact ⟨(hq.ew _ hm).own x.e.dv x.e.rv,(show j8 (dotW (nW x)) from hq.dotOk hm),(show (nW x).e.refs.length≤_ from hq.rf _ hm)⟩
 have h32:∀ m∈D,m.e.id.length=32:=fun m hm=>(hDe m hm).1.l32
 refine fq ((eh t_api_Want 35 Z).trans (ac 10 [0,1,2,7,8,9,3,4,5,6] Z Z)) <| af Z <| bd3 <| ae <| bd4 <| af Z <| bd3 <| ar ?_
 refine b6 (S:=Nat × List Wt × Option Addr × Nat) (fun s=> [(0,.pointer (some ⟨gw,0,none⟩)),(3,.slice s.2.2.1 s.2.1.length s.2.2.2),(4,.slice A0 D.length c0),(5,.int .i64 (s.1:Int))])
  (fun s=>rWt s.2.2.1 s.2.2.2 s.2.1.length s.2.1::rWs (.slice A0 D.length c0) D::all (wsF D)::stX gw wq wt Ag cg l (stW wq v lq V M F)) (fun s=>s.1≤D.length∧s.2.1=ir (D.take s.1) C) (fun s=>D.length - s.1) (0,[],none,0) ⟨rfl,rfl,rfl,rfl,trivial⟩ (Ent.refl _) ⟨Nat.zero_le _,rfl⟩ ?_
 rintro ⟨i,W,A,c⟩ ⟨hi1,hW⟩
 dsimp only at hi1 hW ⊢
 refine ae <| bd4 <| bgj Z Z Z <| af Z <| bd3 ?_
 by_cases h1:i<D.length
 rotate_left
 ·refine cm 16 (.bool false) Z (congrArg Value.bool (decide_eq_false (by omega))) ?_
  rw [List.take_of_length_le (by omega),← ac9,hD] at hW
  subst hW
  refine al Z <| bu <| av <| ax <| au <| aa <| bd4 <| bgi Z Z <| bd3 <| aj <| ai Z (.tmp Z .nil) ((ac 6 [3,4,5,0] Z Z).trans ((pj hG).trans (ac 2 [1,0] Z Z))) ?_
  exact ⟨A,c,rfl,rfl⟩
 refine cm 16 (.bool true) Z (congrArg Value.bool (decide_eq_true (by omega))) ?_
 obtain ⟨gD,oD,rfl⟩:=k3 (by omega)
 have hsp:D=D.take i++D[i]::D.drop (i+1):=by rw [← List.drop_eq_getElem_cons h1,List.take_append_drop]
 have hmem:=List.getElem_mem h1
 have hsn:ir (D.take (i+1)) C=W++ly C D[i] D[i].e.refs:=by rw [List.take_succ_eq_append_getElem h1,ah6,hW]
 have hcl:∀ {F':List SP} {k:Nat},nth F' k=some (rWs (.slice (some ⟨gD,oD,none⟩) D.length c0) D)→∀ w,Sat b F' w→∀ j,j<40→w.cell? ⟨gD,oD+i*40+j,none⟩=(waC D[i])[j]?:=fun hk w H j hj=>ade hk h32 h1 hj w H
 generalize D[i]=x at *
 obtain ⟨hew,hdk,hrl⟩:=hDe x hmem
 have hx32:=hew.l32
 refine aq Z <| ao <| aa <| ae <| ar <| bd4 <| bgi Z Z <| b5 Z (by omega) <| af Z ?_
 refine iu Z (fun w H=>cn (cs:=evC x.e) Z Z Z (cu hx32) (fun j hj=>by rw [cu hx32] at hj;rw [bi,j7];exact (hcl (k:=1) Z w H j (by omega)).trans (a1l hx32 hj))) Z ?_
 refine b9 (fun w H=>du (pd (k:=2) Z hmem w H).rv) ?_
 rintro ⟨A1,c1,hrv,_,_,_,q3,_⟩
 refine b9 (fun w H=>(pd (k:=2) Z hmem w H).dv.form) ?_
 rintro ⟨A2,c2,hdv,_⟩
 refine ek Z Z Z Z Z fun g6=> ?_
 refine im 0 Z Z Z Z Z Z Z (cu hx32) (kj (by rw [hdv];rfl) (by rw [hrv];rfl)) (by rw [cu hx32];rfl) ?_
 refine a8r <| af Z <| bd3 <| ar ?_
 refine b6 (S:=Nat × List Wt × Option Addr × Nat) (fun s=> [(0,.pointer (some ⟨gw,0,none⟩)),(3,.slice s.2.2.1 s.2.1.length s.2.2.2),(4,.slice (some ⟨gD,oD,none⟩) D.length c0),(5,.int .i64 (i:Int)),(6,.pointer (some ⟨g6,0,none⟩)),(7,.int .i64 (s.1:Int))])
  (fun s=>rWt s.2.2.1 s.2.2.2 s.2.1.length s.2.1::pt g6 bo (evC x.e)::rWs (.slice (some ⟨gD,oD,none⟩) D.length c0) D::all (wsF D)::stX gw wq wt Ag cg l (stW wq v lq V M F)) (fun s=>s.1≤x.e.refs.length∧s.2.1=W++ly C x (x.e.refs.take s.1)) (fun s=>x.e.refs.length - s.1) (0,W,A,c) ⟨rfl,rfl,rfl,rfl,rfl,rfl,trivial⟩ (ac 2 [1,0] Z Z) ⟨Nat.zero_le _,by simp [ly]⟩ ?_
 rintro ⟨k,W',A',c'⟩ ⟨hk1,hW'⟩
 dsimp only at hk1 hW' ⊢
 refine ae <| bd4 <| bgi Z Z <| kr 1 Z Z Z Z Z Z ((nf hx32).trans (congrArg some hrv)) Z <| bgi Z Z <| bd3 ?_
 by_cases h2:k<x.e.refs.length
 rotate_left
 ·refine cm 28 (.bool false) Z (congrArg Value.bool (decide_eq_false (by omega))) ?_
  rw [List.take_of_length_le (by omega)] at hW'
  refine al Z <| bu <| av <| ax <| au <| ba <| aa <| ab <| af Z <| b5 Z (by (unfold I64;omega)) <| af Z <| ad ?_
  refine bj (i+1,W',A',c') ⟨rfl,rfl,rfl,rfl,trivial⟩ (ac 2 [0] Z Z) ⟨h1,by dsimp only;rw [hsn];exact hW'⟩ (by dsimp only;omega)
 refine cm 28 (.bool true) Z (congrArg Value.bool (decide_eq_true (by omega))) ?_
 obtain ⟨gR,oR,rfl⟩:=q3 (by omega)
 have ca:∀ {F':List SP} {q:Nat},nth F' q=some (all (wsF D))→∀ w,Sat b F' w→∀ j,j<32→w.cell? ⟨gR,oR+k*32+j,none⟩=(u8s x.e.refs[k])[j]?:=fun {F' q} hk=>jt (F:=F') (fun w H=>by rw [← hrv];exact (pd hk hmem w H).rv) hew.r32 h2
 have hy:=hew.r32 _ (List.getElem_mem h2)
 have htk:x.e.refs.take (k+1)=x.e.refs.take k ++ [x.e.refs[k]]:=List.take_succ_eq_append_getElem h2
 have hrs:x.e.refs=x.e.refs.take (k+1)++x.e.refs.drop (k+1):=(List.take_append_drop _ _).symm
 generalize x.e.refs[k]=y at *
 refine aq Z <| ao <| aa <| ae <| ar <| ae <| b7 flo _ (by decide +kernel) (Ent.refl _) <| ay Z Zl <| ay Z Zl <| de 1 Z Z Z Z <| cz Z Z Z Z ((qg (gw:=gw) (wq:=wq) (wt:=wt) (A:=Ag) (c:=cg) (l:=l) (d:=dotW x) (F:=rWt A' c' W'.length W'::pt g6 bo (evC x.e)::rWs (.slice (some ⟨gD,oD,none⟩) D.length c0) D::all (wsF D)::stW wq v lq V M F)).at (ac 7 [4,5,6,0,1,2,3] Z Z) (ac 7 [3,4,5,6,0,1,2] Z Z)) (Ent.refl _) <| ay Z Zl <| nl 1 Z Z Z Z Z Z ((nf hx32).trans (congrArg some hrv)) Z Z <| ay Z Zl <| dj Z Z (by omega) ?_
 refine fu Z (fun w H=>cn (cs:=u8s y) Z Z Z (by rw [bg,hy];rfl) (fun j hj=>by rw [bi,j7];exact ca (q:=3) Z w H j (by rw [bg,hy] at hj;exact hj))) Z Z ?_
 refine cz Z Z Z Z (ao5 (l:=cfm (dotW x) C) (fun w H=>by rw [← hG.eq];exact ak9 (k:=6) Z w H) (fun a ha=>((hC _).1 a ha).1) hy) (Ent.refl _) ?_
 refine ay Z Zl <| az ?_
 by_cases hin:y∈cfm (dotW x) C
 ·refine aa (cm 41 (.bool false) Z (congrArg Value.bool (by rw [decide_eq_true hin];rfl)) ?_)
  refine al Z <| ao <| ba <| aa <| ab <| af Z <| b5 Z (by (unfold I64;omega)) <| af Z <| ad ?_
  refine bj (k+1,W',A',c') ⟨rfl,rfl,rfl,rfl,rfl,rfl,trivial⟩ (Ent.refl _) ⟨h2,by dsimp only;rw [htk,yc,if_pos hin,List.append_nil];exact hW'⟩ (by dsimp only;omega)
 ·refine aa (cm 41 (.bool true) Z (congrArg Value.bool (by rw [decide_eq_false hin];rfl)) ?_)
  have hnew:W++ly C x (x.e.refs.take (k+1))=W' ++ [⟨dotW x,y,x.src⟩]:=by rw [htk,yc,if_neg hin,← List.append_assoc,← hW']
  have hcap:W'.length+1≤60000000:=by
   have h3:=amx C hsp hrs
   rw [← hW,hnew,List.length_append,List.length_singleton] at h3
   rw [← ac9,hD] at h3
   omega
  refine aq Z <| b7 flo (pt g6 bo (evC x.e)::rWs (.slice (some ⟨gD,oD,none⟩) D.length c0) D::all (wsF D)::F) (by decide +kernel) (ac 11 [1,2,3] Z Z) <| ay Z Zl <| ay Z Zl <| de 0 Z Z Z Z <| ay Z Zl <| nl 0 Z Z Z Z Z Z ((nf hx32).trans (congrArg some hrv)) Z Z <| ay Z Zl <| dj Z Z (by omega) ?_
  refine fu Z (fun w H=>cn (cs:=u8s y) Z Z Z (by rw [bg,hy];rfl) (fun j hj=>by rw [bi,j7];exact ca (q:=2) Z w H j (by rw [bg,hy] at hj;exact hj))) Z Z ?_
  refine ay Z Zl <| ay Z Zl <| dj Z Z (by omega) <| ay Z Zl ?_
  refine fu Z (fun w H=>bm (v:= .int .i64 x.src) Z Z Z (by rw [bi,j7];exact (hcl (k:=1) Z w H 39 (by omega)).trans (a4b hx32))) Z Z ?_
  refine a6g Z Z Z Z ⟨rfl,(by show (u8s y).length=32;rw [bg,hy]),rfl,trivial⟩ ?_
  refine n9 (cs:=wtC ⟨dotW x,y,x.src⟩) Z Z Z Z Z Z Z Z (yb hy) (by decide) (ac 11 [1,2,3] Z Z) fun gl=> ?_
  refine nz 1 Z Z Z Z Z Z Z Z Z Z (m:=1) (news:=wtC ⟨dotW x,y,x.src⟩) (fun w H=>(H.blk (k:=0) Z).sl (by rw [yb hy]) (by decide)) (avl _) (by omega) (fun _=>rfl) (fun _=>ac 12 [2,3,4] Z Z) fun v2=> ?_
  refine ie (fun w H=>(H.oat (k:=1) Z).form) ?_
  rintro ⟨A5,c5,rfl,_,_,_⟩
  refine ay Z Zl <| az <| ba <| aa <| ab <| af Z <| b5 Z (by (unfold I64;omega)) <| af Z <| ad ?_
  have e1:flC wtC W'++wtC ⟨dotW x,y,x.src⟩=flC wtC (W' ++ [⟨dotW x,y,x.src⟩]):=by simp only [mo,flC,List.append_nil]
  have e2:W'.length+1=(W' ++ [(⟨dotW x,y,x.src⟩:Wt)]).length:=by rw [List.length_append];rfl
  rw [e1,e2]
  refine bj (k+1,W' ++ [⟨dotW x,y,x.src⟩],A5,c5) ⟨rfl,rfl,rfl,rfl,rfl,rfl,trivial⟩ (ac 8 [1,2,3,4,5,6,7] Z Z) ⟨h2,hnew.symm⟩ (by dsimp only;omega)
end

def ary (V:List Int) (C:CL) (w:Wn):Bool:=qb w.e.deps V&&decide ((cfm (dotW w) C).length=w.e.refs.length)
def aik (V:List Int) (C:CL) (D:List Wn):List (Int × Int):=(D.filter (ary V C)).map dotW
theorem a4c (V:List Int) (C:CL) (D:List Wn):aik V C (D.map nW)=aik V C D:=by
 unfold aik
 rw [List.filter_map,List.map_map]
 rfl
theorem a4d {n:Nat} {V:List Int} {L:List Wn} (hq:QI n V L) (C:CL):aik V C L=gz V L C:=by
 have h1:∀ D:List Wn,(∀ w∈D,w∈L)→aik V C D=(gn V D).filter (pg L C):=fun D=>by
  induction D with
  | nil => intro _; rfl
  | cons x D ih =>
   intro hD
   have ih:=ih fun w hw=>hD w (List.mem_cons_of_mem _ hw)
   have hf:jc (dotW x) L=some x:=r6 hq.nd (hD x List.mem_cons_self) Z
   have hw:pg L C (dotW x)=decide ((cfm (dotW x) C).length=x.e.refs.length):=by rw [pg,hf]
   unfold aik gn at ih ⊢
   rw [List.filter_cons,List.filter_cons]
   cases hl:qb x.e.deps V with
   | false =>
    rw [if_neg (by rw [ary,hl];simp),if_neg (by simp)]
    exact ih
   | true =>
    rw [if_pos rfl,List.map_cons,List.filter_cons]
    by_cases hc:(cfm (dotW x) C).length=x.e.refs.length
    ·rw [if_pos (by rw [ary,hl,decide_eq_true hc];rfl),if_pos (by rw [show (x.e.r,x.e.n)=dotW x from rfl,hw];exact decide_eq_true hc),List.map_cons,ih]
    ·rw [if_neg (by rw [ary,decide_eq_false hc];simp),if_neg (by rw [show (x.e.r,x.e.n)=dotW x from rfl,hw,decide_eq_false hc];decide),ih]
 exact h1 L fun _ h=>h
theorem axn (V:List Int) (C:CL) {D:List Wn} {i:Nat} (hi:i<D.length):aik V C (D.take (i+1))=aik V C (D.take i)++if ary V C D[i]=true then [dotW D[i]] else []:=by
 rw [List.take_succ_eq_append_getElem hi,aik,List.filter_append,List.map_append]
 unfold aik
 congr 1
 simp only [List.filter_cons,List.filter_nil]
 split <;> rfl
section
variable {b:World} {F:List SP} {gw wq wt n:Nat} {w r:Int} {V:List Int} {L:List Wn} {X:BL} {C:CL} {D:List Wn}
theorem arz (l:List (Int × Int)) (d:Int × Int):oh l ++ [.int .i64 d.1,.int .i64 d.2]=oh (l ++ [d]):=by
 rw [pf,pf,mo];simp [flC,dC]
set_option maxRecDepth 20000 in
set_option maxHeartbeats 4000000 in
theorem alc {v lq:Value} {M:List Wn} (hq:QI n V L) (hM:M.map nW=L):SC Tryz.prog nr [.pointer (some ⟨gw,0,none⟩)] b (rgt gw wq wt C::stW wq v lq V M F) (fun u F'=>∃ A c,u = .slice A (gz V L C).length c∧F'=rO A c (gz V L C).length (gz V L C)::rgt gw wq wt C::stW wq v lq V M F):=by
 refine SC.opn ?_
 rintro ⟨Ag,cg,l⟩ hG
 dsimp only at hG
 refine SC.ent (G:=stW wq v lq V M (stX gw wq wt Ag cg l F)) ?_ (ac 7 [3,4,5,6,0,1,2] Z Z)
 have hqM:QI n V (M.map nW):=by rw [hM];exact hq
 refine bf Tryz.func52 Z Z Z <| bt (fun w H=>(H.oat (k:=1) Z).form) ?_
 rintro ⟨Av,cv,rfl,_,_,_⟩
 refine bd4 <| af Z <| a8r <| af Z <| a8r <| bgj Z Z Z <| df 4 Z Z Z <| bq Z Z Z (aot (gw:=wq) (n:=n) (V:=V) (M:=M) (v:= .slice Av V.length cv) (l:=lq) hqM) ?_
 rintro v4 _ ⟨D,hD,rfl⟩
 rw [hM] at hD
 refine b9 (fun w H=>(H.oat (k:=0) Z).form) ?_
 rintro ⟨A0,c0,rfl,kc0,_,k3⟩
 have hDe:∀ x∈D,EW x.e∧j8 (dotW x)∧x.e.refs.length≤1000000:=fun x hx=>by
  have hm:nW x∈L:=by rw [← hD];exact List.mem_map.2 ⟨x,hx,rfl⟩
  exact ⟨(hq.ew _ hm).own x.e.dv x.e.rv,(show j8 (dotW (nW x)) from hq.dotOk hm),(show (nW x).e.refs.length≤_ from hq.rf _ hm)⟩
 have h32:∀ m∈D,m.e.id.length=32:=fun m hm=>(hDe m hm).1.l32
 have hDl:D.length≤100000:=by rw [adb hD];exact hq.many
 refine fq ((eh t_api_Dot 2 Z).trans (ac 10 [0,1,2,7,8,9,3,4,5,6] Z Z)) <| af Z <| bd3 <| ae <| bd4 <| af Z <| bd3 <| ar ?_
 refine b6 (S:=Nat × List (Int × Int) × Option Addr × Nat) (fun s=> [(0,.pointer (some ⟨gw,0,none⟩)),(3,.slice s.2.2.1 s.2.1.length s.2.2.2),(4,.slice A0 D.length c0),(5,.int .i64 (s.1:Int))])
  (fun s=>rO s.2.2.1 s.2.2.2 s.2.1.length s.2.1::rWs (.slice A0 D.length c0) D::all (wsF D)::stX gw wq wt Ag cg l (stW wq (.slice Av V.length cv) lq V M F)) (fun s=>s.1≤D.length∧s.2.1=aik V C (D.take s.1)) (fun s=>D.length - s.1) (0,[],none,0) ⟨rfl,rfl,rfl,rfl,trivial⟩ (Ent.refl _) ⟨Nat.zero_le _,rfl⟩ ?_
 rintro ⟨i,W,A,c⟩ ⟨hi1,hW⟩
 dsimp only at hi1 hW ⊢
 have hWl:W.length≤100000:=by
  rw [hW,aik,List.length_map]
  refine Nat.le_trans (List.length_filter_le _ _) ?_
  rw [List.length_take];omega
 refine ae <| bd4 <| bgj Z Z Z <| af Z <| bd3 ?_
 by_cases h1:i<D.length
 rotate_left
 ·refine cm 15 (.bool false) Z (congrArg Value.bool (decide_eq_false (by omega))) ?_
  rw [List.take_of_length_le (by omega),← a4c,hD,a4d hq] at hW
  subst hW
  refine al Z <| bu <| av <| ax <| au <| aa <| bd4 <| bgi Z Z <| bd3 <| aj <| ai Z (.tmp Z .nil) ((ac 6 [3,4,5,0] Z Z).trans ((pj hG).trans (ac 2 [1,0] Z Z))) ?_
  exact ⟨A,c,rfl,rfl⟩
 refine cm 15 (.bool true) Z (congrArg Value.bool (decide_eq_true (by omega))) ?_
 obtain ⟨gD,oD,rfl⟩:=k3 (by omega)
 have hmem:=List.getElem_mem h1
 have hsn:=axn V C h1
 rw [← hW] at hsn
 have hcl:∀ {F':List SP} {k:Nat},nth F' k=some (rWs (.slice (some ⟨gD,oD,none⟩) D.length c0) D)→∀ w,Sat b F' w→∀ j,j<40→w.cell? ⟨gD,oD+i*40+j,none⟩=(waC D[i])[j]?:=fun hk w H j hj=>ade hk h32 h1 hj w H
 generalize D[i]=x at *
 obtain ⟨hew,hdk,hrl⟩:=hDe x hmem
 have hx32:=hew.l32
 refine aq Z <| ao <| aa <| ae <| ar <| bd4 <| bgi Z Z <| b5 Z (by omega) <| af Z ?_
 refine iu Z (fun w H=>cn (cs:=evC x.e) Z Z Z (cu hx32) (fun j hj=>by rw [cu hx32] at hj;rw [bi,j7];exact (hcl (k:=1) Z w H j (by omega)).trans (a1l hx32 hj))) Z ?_
 refine b9 (fun w H=>du (pd (k:=2) Z hmem w H).rv) ?_
 rintro ⟨A1,c1,hrv,_,_,_,q3,_⟩
 refine b9 (fun w H=>(pd (k:=2) Z hmem w H).dv.form) ?_
 rintro ⟨A2,c2,hdv,_⟩
 refine b9 (fun w H=>du (ak9 (d:=dotW x) (k:=5) Z w H)) ?_
 rintro ⟨A7,c7,hvv,_⟩
 rw [hG.eq] at hvv
 refine ek Z Z Z Z Z fun g6=> ?_
 refine im 0 Z Z Z Z Z Z Z (cu hx32) (kj (by rw [hdv];rfl) (by rw [hrv];rfl)) (by rw [cu hx32];rfl) ?_
 refine bd3 <| ae <| b7 flo (pt g6 bo (evC x.e)::pt gw ic (rgC wq wt Ag cg l.length)::pt wq io [.slice Av V.length cv,lq]::F) (by decide +kernel) (ac 11 [0,4,7] Z Z) <| ay Z Zl <| de 0 Z Z Z Z <| ay Z Zl <| ay Z Zl <| ay Z Zl <| de 1 Z Z Z Z <| ay Z Zl <| ay Z Zl <| de 2 Z Z Z Z ?_
 refine cz Z Z Z Z (SC.ofExt fun w H=>ahy (pd (k:=3) Z hmem w H).dv (vlZ (k:=8) Z w H) (by have:=(hq.ew (nW x) (by rw [← hD];exact List.mem_map.2 ⟨x,hmem,rfl⟩));have h9:=(hq.lds (x:=nW x) (by rw [← hD];exact List.mem_map.2 ⟨x,hmem,rfl⟩)).1;exact Nat.le_trans h9 (by decide))) (ac 11 [0,4,7] Z Z) ?_
 cases hl:qb x.e.deps V with
 | false =>
  rw [if_neg (by rw [ary,hl];simp),List.append_nil] at hsn
  refine ay Z Zl <| ay Z Zl <| ay Z Zl <| ay Z Zl <| ay Z (.inr Z) ?_
  (iterate 6 refine ay Z Zl ?_)
  refine az <| aa <| al Z <| ao <| ba <| aa <| ab <| af Z <| b5 Z (by (unfold I64;omega)) <| af Z <| ad <| bj (i+1,W,A,c) ⟨rfl,rfl,rfl,rfl,trivial⟩ (ac 1 [] Z Z) ⟨h1,hsn.symm⟩ ?_
  show D.length - (i+1)<D.length - i
  omega
 | true =>
  refine ay Z Zl <| ay Z Zl <| ay Z Zl <| de 0 Z Z Z Z <| cz Z Z Z Z ((qg (gw:=gw) (wq:=wq) (wt:=wt) (A:=Ag) (c:=cg) (l:=l) (d:=dotW x) (F:=pt g6 bo (evC x.e)::rO A c W.length W::rWs (.slice (some ⟨gD,oD,none⟩) D.length c0) D::all (wsF D)::stW wq (.slice Av V.length cv) lq V M F)).at (ac 11 [4,5,6,0,1,2,3,7,8,9,10] Z Z) (ac 11 [3,4,5,6,0,1,2,7,8,9,10] Z Z)) (ac 11 [0,4,7] Z Z) <| b4 37 (.slice A7 (cfm (dotW x) C).length c7) Z hvv <| ay Z Zl <| ay Z Zl <| nl 0 Z Z Z Z Z Z ((nf hx32).trans (congrArg some hrv)) Z Z <| ay Z Zl <| ay Z Zl <| ay Z Zl ?_
  by_cases hc:(cfm (dotW x) C).length=x.e.refs.length
  ·rw [if_pos (by rw [ary,hl,decide_eq_true hc];rfl)] at hsn
   refine b4 43 (.bool true) Z (congrArg Value.bool (decide_eq_true (by rw [hc]))) ?_
   refine az <| aa <| aq Z <| ab <| bgi Z Z <| df 0 Z Z Z <| ky (cs:= [.int .i64 x.e.r,.int .i64 x.e.n]) Z Z Z Z Z Z Z Z (by decide) fun gl=> ?_
   refine dx 2 Z Z Z Z Z Z Z Z Z (m:=1) (news:= [.int .i64 x.e.r,.int .i64 x.e.n]) (fun w H=>(H.blk (k:=0) Z).sl Z (by decide)) (by simp [Value.oneCell']) (by omega) (fun _=>rfl) fun v2=> ?_
   refine b9 (fun w H=>(H.oat (k:=2) Z).form) ?_
   rintro ⟨A5,c5,rfl,_,_,_⟩
   refine af Z <| ad <| ba <| aa <| ab <| af Z <| b5 Z (by (unfold I64;omega)) <| af Z <| ad ?_
   have e1:=arz W (dotW x)
   have e2:W.length+1=(W ++ [dotW x]).length:=by rw [List.length_append];rfl
   rw [show oh W ++ [Value.int IntKind.i64 x.e.r,Value.int IntKind.i64 x.e.n]=oh (W ++ [dotW x]) from e1,e2]
   refine bj (i+1,W ++ [dotW x],A5,c5) ⟨rfl,rfl,rfl,rfl,trivial⟩ (ac 3 [2] Z Z) ⟨h1,hsn.symm⟩ ?_
   show D.length - (i+1)<D.length - i
   omega
  ·rw [if_neg (by rw [ary,decide_eq_false hc];simp),List.append_nil] at hsn
   refine b4 43 (.bool false) Z (congrArg Value.bool (decide_eq_false (by omega))) <| az <| aa <| al Z <| ao <| ba <| aa <| ab <| af Z <| b5 Z (by (unfold I64;omega)) <| af Z <| ad <| bj (i+1,W,A,c) ⟨rfl,rfl,rfl,rfl,trivial⟩ (ac 1 [] Z Z) ⟨h1,hsn.symm⟩ ?_
   show D.length - (i+1)<D.length - i
   omega
theorem at3:SC Tryz.prog nr [.pointer (some ⟨gw,0,none⟩)] b (rgt gw wq wt C::rqu wq n V L::F) (fun u F'=>∃ A c,u = .slice A (gz V L C).length c∧F'=rO A c (gz V L C).length (gz V L C)::rgt gw wq wt C::rqu wq n V L::F):=by
 refine SC.ent (G:=rqu wq n V L::rgt gw wq wt C::F) (SC.opn ?_) (ac 2 [1,0] Z Z)
 rintro ⟨v,lq,M⟩ ⟨hq,hM⟩
 dsimp only at hq hM
 refine ((alc (gw:=gw) (wt:=wt) (C:=C) (v:=v) (lq:=lq) hq hM).ent (ac 5 [4,0,1,2,3] Z Z)).out ?_
 rintro u _ ⟨A,c,h1,rfl⟩
 exact ⟨_,(ac 6 [2,3,4,5,0,1] Z Z).trans ((akw hq hM).trans (ac 3 [1,2,0] Z Z)),A,c,h1,rfl⟩
end

def NE (C:CL):Prop:=∀ e∈C,e.2≠ []
theorem NE.has {C:CL} (h:NE C) (d:Int × Int):agd d C=decide (0<(cfm d C).length):=by
 induction C with
 | nil => rfl
 | cons e C ih =>
  have ih:=ih fun x hx=>h x (List.mem_cons_of_mem _ hx)
  show (decide (e.1=d) || agd d C)=decide (0<(if e.1=d then e.2 else cfm d C).length)
  by_cases hd:e.1=d
  ·rw [if_pos hd,decide_eq_true hd]
   have:=List.length_pos_iff.2 (h e List.mem_cons_self)
   rw [decide_eq_true this];rfl
  ·rw [if_neg hd,decide_eq_false hd,ih];rfl
theorem NE.put {C:CL} (h:NE C) (d:Int × Int) (id:List Int) (m:List (List Int)):NE (zr d (r8 id m) C):=by
 have hi:r8 id m≠ []:=fun h0=>by
  have:id∈r8 id m:=ak8.2 Zl
  rw [h0] at this;cases this
 induction C with
 | nil => intro e he; cases List.mem_singleton.1 he; exact hi
 | cons x C ih =>
  have ih:=ih fun y hy=>h y (List.mem_cons_of_mem _ hy)
  intro e he
  rw [zr] at he
  split at he
  ·rcases List.mem_cons.1 he with rfl | he
   ·exact hi
   ·exact h e (List.mem_cons_of_mem _ he)
  ·rcases List.mem_cons.1 he with rfl | he
   ·exact h e List.mem_cons_self
   ·exact ih e he
theorem NE.del {C:CL} (h:NE C) (d:Int × Int):NE (zt d C):=by
 induction C with
 | nil => exact h
 | cons x C ih =>
  have ih:=ih fun y hy=>h y (List.mem_cons_of_mem _ hy)
  intro e he
  rw [zt] at he
  split at he
  ·exact h e (List.mem_cons_of_mem _ he)
  ·rcases List.mem_cons.1 he with rfl | he
   ·exact h e List.mem_cons_self
   ·exact ih e he
theorem NE.dlv:∀ (k:Nat) {V:List Int} {L:List Wn} {C:CL},NE C→NE (dlv k V L C).2.2.2
 | 0, _, _, _, h => h
 | k + 1, V, L, C, h => by
  cases hr:gz V L C with
  | nil => rw [zv hr]; exact h
  | cons d l => rw [ahi hr]; exact NE.dlv k (h.del d)
theorem NE.ship {C:CL} (h:NE C) (L:List Wn) (X:BL) (d:Int × Int) (id xs:List Int) (w r:Int):NE (mz L C X d id xs w r):=by
 unfold mz
 split
 ·exact h.put d id _
 ·exact h
section
variable {b:World} {F:List SP} {gw wq wt n:Nat} {w r:Int} {V:List Int} {L:List Wn} {X:BL} {C:CL} {D:List Wn}
set_option maxRecDepth 20000 in
set_option maxHeartbeats 4000000 in
theorem at4 {v lq:Value} {M:List Wn} (hq:QI n V L) (hML:M.map nW=L) (hC:CK C) (hN:NE C):SC Tryz.prog uz [.pointer (some ⟨gw,0,none⟩)] b (rgt gw wq wt C::stW wq v lq V M F) (fun u F'=>∃ A c T,prf T=je L C∧u = .slice A T.length c∧F'=rCn A c T.length T::all (pF T)::rgt gw wq wt C::stW wq v lq V M F):=by
 have hqM:QI n V (M.map nW):=by rw [hML];exact hq
 refine SC.opn ?_
 rintro ⟨Ag,cg,l⟩ hG
 dsimp only at hG
 show SC _ _ _ _ (stX gw wq wt Ag cg l (stW wq v lq V M F)) _
 refine bf Tryz.func53 Z Z Z <| bd4 <| af Z <| a8r <| af Z <| a8r <| bgj Z Z Z <| df 0 Z Z Z <| bq Z Z Z ((aot (gw:=wq) (n:=n) (V:=V) (M:=M) (v:=v) (l:=lq) hqM).ent (ac 7 [3,4,5,6,0,1,2] Z Z)) ?_
 rintro v4 _ ⟨D,hD,rfl⟩
 rw [hML] at hD
 refine b9 (fun w H=>(H.oat (k:=0) Z).form) ?_
 rintro ⟨A0,c0,rfl,kc0,_,k3⟩
 have hDe:∀ x∈D,EW x.e∧j8 (dotW x)∧x.e.refs.length≤1000000:=fun x hx=>by
  have hm:nW x∈L:=by rw [← hD];exact List.mem_map.2 ⟨x,hx,rfl⟩
  exact ⟨(hq.ew _ hm).own x.e.dv x.e.rv,(show j8 (dotW (nW x)) from hq.dotOk hm),(show (nW x).e.refs.length≤_ from hq.rf _ hm)⟩
 have h32:∀ m∈D,m.e.id.length=32:=fun m hm=>(hDe m hm).1.l32
 have hDl:D.length≤100000:=by rw [adb hD];exact hq.many
 refine fq (((ji (G:= [])).trans (eh ja 3 Z)).trans (ac 11 [0,1,2,3,8,9,10,4,5,6,7] Z Z)) <| af Z <| bd3 <| ae <| bd4 <| af Z <| bd3 <| ar ?_
 refine b6 (S:=Nat × List Pf × Option Addr × Nat) (fun s=> [(0,.pointer (some ⟨gw,0,none⟩)),(3,.slice s.2.2.1 s.2.1.length s.2.2.2),(4,.slice A0 D.length c0),(5,.int .i64 (s.1:Int))])
  (fun s=>rCn s.2.2.1 s.2.2.2 s.2.1.length s.2.1::all (pF s.2.1)::rWs (.slice A0 D.length c0) D::all (wsF D)::stX gw wq wt Ag cg l (stW wq v lq V M F)) (fun s=>s.1≤D.length∧prf s.2.1=je (D.take s.1) C∧s.2.1.length≤s.1) (fun s=>D.length - s.1) (0,[],none,0) ⟨rfl,rfl,rfl,rfl,trivial⟩ (Ent.refl _) ⟨Nat.zero_le _,rfl,Nat.zero_le _⟩ ?_
 rintro ⟨i,T,A,c⟩ ⟨hi1,hT,hTl⟩
 dsimp only at hi1 hT hTl ⊢
 refine ae <| bd4 <| bgj Z Z Z <| af Z <| bd3 ?_
 by_cases h1:i<D.length
 rotate_left
 ·refine cm 15 (.bool false) Z (congrArg Value.bool (decide_eq_false (by omega))) ?_
  rw [List.take_of_length_le (by omega),← amy,hD] at hT
  refine al Z <| bu <| av <| ax <| au <| aa <| bd4 <| bgi Z Z <| bd3 <| aj <| ai Z (.tmp Z .nil) ((ac 7 [4,5,6,0,1] Z Z).trans ((pj hG).trans (ac 3 [1,2,0] Z Z))) ?_
  exact ⟨A,c,T,hT,rfl,rfl⟩
 refine cm 15 (.bool true) Z (congrArg Value.bool (decide_eq_true (by omega))) ?_
 obtain ⟨gD,oD,rfl⟩:=k3 (by omega)
 have hmem:=List.getElem_mem h1
 have hsn:je (D.take (i+1)) C=prf T++(if agd (dotW D[i]) C=true then [(dotW D[i],cfm (dotW D[i]) C)] else []):=by rw [List.take_succ_eq_append_getElem h1,ah7,hT]
 have hcl:∀ {F':List SP} {k:Nat},nth F' k=some (rWs (.slice (some ⟨gD,oD,none⟩) D.length c0) D)→∀ w,Sat b F' w→∀ j,j<2→w.cell? ⟨gD,oD+i*40+j,none⟩ = [Value.int .i64 D[i].e.r,.int .i64 D[i].e.n][j]?:=fun hk w H j hj=>by
  rcases j with _ | _ | j
  ·exact (ade hk h32 h1 (j:=0) (by omega) w H).trans Z
  ·exact (ade hk h32 h1 (j:=1) (by omega) w H).trans Z
  ·omega
 generalize D[i]=x at *
 rw [hN.has] at hsn
 refine aq Z <| ao <| aa <| ae <| ar <| bd4 <| bgj Z Z Z <| b5 Z (by omega) <| bgi Z Z ?_
 refine iu Z (fun w H=>cn (cs:= [.int .i64 x.e.r,.int .i64 x.e.n]) Z Z Z Z (fun j hj=>by rw [bi,j7];exact hcl (k:=2) Z w H j hj)) Z ?_
 refine bh Z Z Z ((qg (gw:=gw) (wq:=wq) (wt:=wt) (A:=Ag) (c:=cg) (l:=l) (d:=dotW x) (F:=rCn A c T.length T::all (pF T)::rWs (.slice (some ⟨gD,oD,none⟩) D.length c0) D::all (wsF D)::stW wq v lq V M F)).at (ac 7 [4,5,6,0,1,2,3] Z Z) (ac 7 [3,4,5,6,0,1,2] Z Z)) ?_
 have hw:∀ {F':List SP} {q:Nat},nth F' q=some (all (pF l))→∀ w,Sat b F' w→SL w 32 (vAt (dotW x) l) (cfm (dotW x) C).length (et (cfm (dotW x) C)):=fun hk=>by
  have:=ak9 (d:=dotW x) (b:=b) hk
  rwa [hG.eq] at this
 have hck:=(hC (dotW x)).2
 generalize cfm (dotW x) C=ids at *
 refine b9 (fun w H=>du (hw (q:=6) Z w H)) ?_
 rintro ⟨Aw,cw,hv,_⟩
 generalize vAt (dotW x) l=vw at *
 subst hv
 refine af Z <| a8r <| bgj Z Z Z <| bd3 ?_
 by_cases h2:0<ids.length
 rotate_left
 ·refine cm 28 (.bool false) Z (congrArg Value.bool (decide_eq_false (by omega))) ?_
  rw [decide_eq_false h2,if_neg (by decide),List.append_nil] at hsn
  refine al Z <| ao <| ba <| aa <| ab <| af Z <| b5 Z (by (unfold I64;omega)) <| af Z <| ad ?_
  refine bj (i+1,T,A,c) ⟨rfl,rfl,rfl,rfl,trivial⟩ (Ent.refl _) ⟨h1,hsn.symm,by dsimp only;omega⟩ ?_
  show D.length - (i+1)<D.length - i
  omega
 refine cm 28 (.bool true) Z (congrArg Value.bool (decide_eq_true (by omega))) ?_
 rw [decide_eq_true h2,if_pos rfl] at hsn
 refine aq Z <| b7 flo (rWs (.slice (some ⟨gD,oD,none⟩) D.length c0) D::F) (by decide +kernel) (ac 11 [2] Z Z) <| ay Z Zl <| ay Z Zl <| ay Z Zl <| dj Z Z (by omega) <| ay Z Zl <| ay Z Zl ?_
 refine fu Z (fun w H=>cn (cs:= [.int .i64 x.e.r,.int .i64 x.e.n]) Z Z Z Z (fun j hj=>by rw [bi,j7];exact hcl (k:=0) Z w H j hj)) Z Z ?_
 refine aur Z Z Z Z Z Z (ac 11 [2] Z Z) fun g36=>agp (iz (n:=0) (sz:=32) Z Z (by decide) 0 Z Z) <| ay Z Zl <| nz 0 Z Z Z Z Z Z Z Z Z Z (m:=ids.length) (news:=et ids) (hw (q:=7) Z) (akb ids) (by omega) (fun _=>rfl) (fun _=>ac 12 [3] Z Z) fun v38=> ?_
 rw [Nat.zero_add ids.length,List.nil_append]
 refine ie (fun w H=>(H.oat (k:=0) Z).form) ?_
 rintro ⟨A6,c6,rfl,_,_,_⟩
 refine ay Z Zl <| n9 (cs:=cfC ⟨dotW x,ids,.slice A6 ids.length c6⟩) Z Z Z Z Z Z Z Z Z (by decide) (ac 12 [3] Z Z) fun gl=> ?_
 refine nz 2 Z Z Z Z Z Z Z Z Z Z (m:=1) (news:=cfC ⟨dotW x,ids,.slice A6 ids.length c6⟩) (fun w H=>(H.blk (k:=0) Z).sl Z (by decide)) (by simp [cfC,Value.oneCell']) (by omega) (fun _=>rfl) (fun _=>ac 13 [4] Z Z) fun v7=> ?_
 refine ie (fun w H=>(H.oat (k:=2) Z).form) ?_
 rintro ⟨A7,c7,rfl,_,_,_⟩
 refine ay Z Zl <| az <| ba <| aa <| ab <| af Z <| b5 Z (by (unfold I64;omega)) <| af Z <| ad ?_
 have e1:flC cfC T++cfC ⟨dotW x,ids,.slice A6 ids.length c6⟩=flC cfC (T ++ [⟨dotW x,ids,.slice A6 ids.length c6⟩]):=by simp only [mo,flC,List.append_nil]
 have e2:T.length+1=(T ++ [(⟨dotW x,ids,.slice A6 ids.length c6⟩:Pf)]).length:=by rw [List.length_append];rfl
 rw [e1,e2]
 refine lv (G:= [rD (.slice A6 ids.length c6) ids]++(all (pF T)::rCn A7 c7 (T ++ [(⟨dotW x,ids,.slice A6 ids.length c6⟩:Pf)]).length (T ++ [⟨dotW x,ids,.slice A6 ids.length c6⟩])::rWs (.slice (some ⟨gD,oD,none⟩) D.length c0) D::all (wsF D)::stX gw wq wt Ag cg l (stW wq v lq V M F))) (ac 9 [1,3,2,4,5,6,7,8] Z Z) <| lv (ql (A:=pF (T ++ [⟨dotW x,ids,.slice A6 ids.length c6⟩])) ao1) ?_
 refine bj (i+1,T ++ [⟨dotW x,ids,.slice A6 ids.length c6⟩],A7,c7) ⟨rfl,rfl,rfl,rfl,trivial⟩ (ac 2 [1,0] Z Z) ⟨h1,by dsimp only;rw [hsn,prf,List.map_append];rfl,by dsimp only;rw [List.length_append];show T.length+1≤i+1;omega⟩ ?_
 show D.length - (i+1)<D.length - i
 omega
end

section
variable {b:World} {F:List SP} {gw wq wt n:Nat} {w r:Int} {V:List Int} {L:List Wn} {X:BL} {C:CL}
theorem a8k {k:Nat} (hk:nth F k=some (rqu wq n V L)):∀ w,Sat b F w→QI n V L:=fun w H=>by
 obtain ⟨h1,_,s,hs,_⟩:=H.mem.get hk
 exact hs.1
def HL (L:List Wn) (C:CL):Prop:=∀ d,cfm d C≠ []→∃ w∈L,dotW w=d
theorem HL.del {L:List Wn} {C:CL} (h:HL L C) (hn:(C.map (·.1)).Nodup) (d:Int × Int):HL (pv d L) (zt d C):=fun d' hd=>by
 by_cases h1:d'=d
 ·subst h1;rw [nh hn] at hd;exact absurd Z hd
 ·rw [qu h1] at hd
  obtain ⟨w,hw,h2⟩:=h d' hd
  exact ⟨w,acr.2 ⟨hw,by rw [h2];exact h1⟩,h2⟩
set_option maxRecDepth 20000 in
set_option maxHeartbeats 4000000 in
theorem ao6 (hnd:(C.map (·.1)).Nodup) (hL:HL L C):SC Tryz.prog tn [.pointer (some ⟨gw,0,none⟩)] b (rgt gw wq wt C::rqu wq n V L::F) (fun u F'=>∃ A c D,D.map nE=(pw V L C).1∧u = .slice A D.length c∧F'=rEn A c D.length D::all (evF D)::rgt gw wq wt (pw V L C).2.2.2::rqu wq n (pw V L C).2.1 (pw V L C).2.2.1::F):=by
 refine bf Tryz.func49 Z Z Z <| bt (a8k (k:=1) Z) fun hq=>bd4 <| af Z <| a8r <| af Z <| bd3 <| ar ?_
 refine b6 (S:=List Ev × List Int × List Wn × CL × Nat × Option Addr × Nat) (fun s=> [(0,.pointer (some ⟨gw,0,none⟩)),(3,.slice s.2.2.2.2.2.1 s.1.length s.2.2.2.2.2.2)])
  (fun s=>rEn s.2.2.2.2.2.1 s.2.2.2.2.2.2 s.1.length s.1::all (evF s.1)::rgt gw wq wt s.2.2.2.1::rqu wq n s.2.1 s.2.2.1::F) (fun s=>s.2.2.1.length≤s.2.2.2.2.1∧s.1.length+s.2.2.1.length≤L.length∧QI n s.2.1 s.2.2.1∧(s.2.2.2.1.map (·.1)).Nodup∧HL s.2.2.1 s.2.2.2.1∧s.1.map nE++(dlv s.2.2.2.2.1 s.2.1 s.2.2.1 s.2.2.2.1).1=(pw V L C).1∧(dlv s.2.2.2.2.1 s.2.1 s.2.2.1 s.2.2.2.1).2=(pw V L C).2) (fun s=>s.2.2.1.length) ([],V,L,C,L.length,none,0) ⟨rfl,rfl,trivial⟩ ((ji (G:= [])).trans (eh bo 39 Z)) ⟨Nat.le_refl _,by dsimp only;exact Nat.le_of_eq (Nat.zero_add _),hq,hnd,hL,rfl,rfl⟩ ?_
 rintro ⟨D,V1,L1,C1,k,A,c⟩ ⟨hk,hoL,hq1,hn1,hL1,hD1,hD2⟩
 dsimp only at hk hoL hq1 hn1 hL1 hD1 hD2 ⊢
 refine ar <| bd4 <| af Z <| bq Z Z Z ((at3 (gw:=gw) (wq:=wq) (wt:=wt) (n:=n) (V:=V1) (L:=L1) (C:=C1)).ent (ac 4 [2,3,0,1] Z Z)) ?_
 rintro _ _ ⟨A0,c0,rfl,rfl⟩
 refine af Z <| bd3 <| ae <| bd4 <| bgj Z Z Z <| bd3 ?_
 cases hrl:gz V1 L1 C1 with
 | nil =>
  rw [zv hrl k] at hD1 hD2
  rw [List.append_nil] at hD1
  refine cm 13 (.bool true) Z Z <| aq Z <| bd4 <| bgi Z Z <| bd3 <| aj <| ag <| ap <| da <| ap <| ai Z (.tmp Z .nil) (ac 5 [3,4,1,2] Z Z) ?_
  rw [← hD2]
  exact ⟨A,c,D,hD1,rfl,rfl⟩
 | cons d T =>
 have hdm:d∈gz V1 L1 C1:=by rw [hrl];exact List.mem_cons_self
 have hdr:d∈gn V1 L1:=(List.mem_filter.1 hdm).1
 have hdk:=ac7 hq1 hdr
 obtain ⟨x,hfx,hlx,hxd⟩:=zu hq1 hdr
 have hlt:=ao2 hfx
 obtain ⟨k',rfl⟩:∃ k',k=k'+1:=⟨k - 1,by omega⟩
 rw [ahi hrl k'] at hD1 hD2
 refine cm 13 (.bool false) Z (congrArg Value.bool (decide_eq_false (by simp only [List.length_cons];omega))) ?_
 refine bt (fun w H=>(H.oat (k:=0) Z).form) ?_
 rintro ⟨A',c',hv,_,_,q3⟩
 cases hv
 obtain ⟨gR,oR,rfl⟩:∃ gR oR,A0=some ⟨gR,oR,none⟩:=by
  refine q3 ?_
  simp only [List.length_cons] at *
  omega
 have fx:((oh (d::T)).drop (0*2)).take 2=dC d:=age (D:=d::T) (j:=0) Z
 have hdE:zn V1 L1 d=0:=by rw [zn,hfx];exact if_pos hlx
 have hsw:=hq1.del (fg hfx).1 hlx
 rw [hxd] at hsw
 have hxe:(x.e.r,x.e.n)=d:=hxd
 have hx1:x.e.r=d.1:=congrArg Prod.fst hxe
 have hx2:x.e.n=d.2:=congrArg Prod.snd hxe
 rw [hx1,hx2] at hsw
 have hDel:∀ {A0:List SP},SC Tryz.prog jz [.pointer (some ⟨wq,0,none⟩),ry d] b (rqu wq n V1 L1::A0) (fun u F'=>∃ w,nW w=x∧u = .tuple ⟨[evV w.e,.int .i64 0]⟩∧F'=rZ w.e.dv w.e.deps::rD w.e.rv w.e.refs::rqu wq n (me V1 d.1 d.2) (pv d L1)::A0):=fun {A0}=>(ats).mono fun u F' h=>by
  rcases h with ⟨h1,_⟩ | ⟨x',w,h1,_,h3,h4,h5⟩
  ·exact absurd hdE h1
  ·rw [hfx] at h1;cases h1;exact ⟨w,h3,h4,h5⟩
 have hew:∀ w:Wn,nW w=x→EW w.e∧nE w.e=nE x.e∧w.e.deps.length≤1000000∧w.e.refs.length≤1000000:=fun w hw=>by
  have h1:=hq1.ew x (fg hfx).1
  have h2:=hq1.lds (fg hfx).1
  subst hw
  exact ⟨EW.of_nW Z h1,rfl,h2.1,h2.2⟩
 refine abh (ac 5 [1,0,2,3,4] Z Z) <| ayw ?_
 rintro ⟨Ag,cg,l⟩ hG
 dsimp only at hG
 refine abh (G:=rO (some ⟨gR,oR,none⟩) c0 (d::T).length (d::T)::stX gw wq wt Ag cg l (rqu wq n V1 L1::rEn A c D.length D::all (evF D)::F)) (ac 7 [3,0,1,2,4,5,6] Z Z) <| al Z <| ao <| aa <| ae ?_
 refine wv (S':=Nat × Wn) flo 11 0 0 [0,1,2,3,4,5,6,7,8,9,10] (OT.pre [12,13] .nil) (rO (some ⟨gR,oR,none⟩) c0 (d::T).length (d::T)::pt gw ic (rgC wq wt Ag cg l.length)::F) Z (by decide +kernel) Z (ac 7 [0,1] Z Z) (fun q=> [(0,.pointer (some ⟨gw,0,none⟩)),(3,.slice A D.length c),(4,.slice (some ⟨gR,oR,none⟩) (d::T).length c0),(5,.pointer (some ⟨q.1,0,none⟩)),(24,evV q.2.e),(25,.int .i64 0)])
  (fun q=>pt q.1 bo (evC ev0)::rZ q.2.e.dv q.2.e.deps::rD q.2.e.rv q.2.e.refs::rO (some ⟨gR,oR,none⟩) c0 (d::T).length (d::T)::stX gw wq wt Ag cg l (rqu wq n (me V1 d.1 d.2) (pv d L1)::rEn A c D.length D::all (evF D)::F)) (fun q=>nW q.2=x) (fun q _=>ac 10 [3,4] Z Z) ?_ (fun J=> ?_)
 ·rintro ⟨g5,w⟩ hw
  dsimp only at hw ⊢
  obtain ⟨hwe,hwn,hwd,hwr⟩:=hew w hw
  have wl:=cu hwe.l32
  refine mg 12 2 .nil Z Z <| ie (ux (e:=w.e) (i:=1) (j:=2) Z Z) fun hone=> ?_
  refine qr (vs:=evC w.e) 0 Z Z Z Z Z Z Z Z wl (kj hone.1 hone.2) (by rw [wl];rfl) (ac 10 [3,4] Z Z) ?_
  refine ay Z Zl <| az <| vp <| aa <| bd4 <| af Z ?_
  refine dk 0 Z Z Z Z Z Z (fd (by rw [wl];rfl)) Z ?_
  refine bq Z Z Z (uw (e:=w.e) (ER.of_rows (e:=w.e) (i:=1) (j:=2) Z Z) hwe.l32 hwd hwr) ?_
  rintro _ _ ⟨dv,rv,rfl,rfl⟩
  have hwo:=hwe.own dv rv
  have wol:=cu hwo.l32
  refine b9 (ux (e:=w.e.own dv rv) (i:=0) (j:=1) Z Z) fun hone2=>ky (cs:=evC (w.e.own dv rv)) Z Z Z Z Z Z Z wol (by decide) fun gl=> ?_
  refine dx 11 Z Z Z Z Z Z Z Z Z (m:=1) (news:=evC (w.e.own dv rv)) (fun w' H=>(H.blk (k:=0) Z).sl (by rw [wol]) (by decide)) (kj hone2.1 hone2.2) (by have:=hq.many;omega) (fun _=>rfl) fun v7=> ?_
  refine b9 (fun w H=>(H.oat (k:=11) Z).form) ?_
  rintro ⟨A7,c7,rfl,_,_,_⟩
  have e1:ag9 D++evC (w.e.own dv rv)=ag9 (D ++ [w.e.own dv rv]):=by simp only [mo,flC,List.append_nil]
  have e2:D.length+1=(D ++ [w.e.own dv rv]).length:=by rw [List.length_append];rfl
  rw [e1,e2]
  have hev:ak4 d L1=nE (w.e.own dv rv):=by rw [ak4,hfx];exact hwn.symm
  refine fq (G:=evP (w.e.own dv rv)++(all (evF D)::rEn A7 c7 (D ++ [w.e.own dv rv]).length (D ++ [w.e.own dv rv])::rO (some ⟨gR,oR,none⟩) c0 (d::T).length (d::T)::stX gw wq wt Ag cg l (rqu wq n (me V1 d.1 d.2) (pv d L1)::F))) (ac 13 [1,2,12,11,6,7,8,9,10] Z Z) <| fq (ql (A:=evF (D ++ [w.e.own dv rv])) aq1) <| fq (eh ja 3 Z) ?_
  have hnew:D.map nE++ak4 d L1::(dlv k' (me V1 d.1 d.2) (pv d L1) (zt d C1)).1=(D ++ [w.e.own dv rv]).map nE++(dlv k' (me V1 d.1 d.2) (pv d L1) (zt d C1)).1:=by rw [hev,List.map_append,List.append_assoc];rfl
  have hnl:(D ++ [w.e.own dv rv]).length=D.length+1:=e2.symm
  clear e1 e2 hev hwo wol hone hone2
  generalize D ++ [w.e.own dv rv]=D2 at *
  have hll:=hG.len hL1
  have hL1n:=hq1.many
  refine b9 (fun w H=>(H.oat (k:=5) Z).form) ?_
  rintro ⟨Ag',cg',hv,kcg,_,k4⟩
  cases hv
  refine af Z <| a8r <| af Z <| bd3 <| ae <| bd4 <| af Z <| bd3 <| ar ?_
  refine b6 (S:=Nat × List Pf × Option Addr × Nat) (fun s=> [(0,.pointer (some ⟨gw,0,none⟩)),(3,.slice A7 D2.length c7),(4,.slice (some ⟨gR,oR,none⟩) (d::T).length c0),(7,.slice s.2.2.1 s.2.1.length s.2.2.2),(8,.int .i64 (s.1:Int))])
   (fun s=>rCn s.2.2.1 s.2.2.2 s.2.1.length s.2.1::all (evF D2)::rEn A7 c7 D2.length D2::rO (some ⟨gR,oR,none⟩) c0 (d::T).length (d::T)::stX gw wq wt Ag cg l (rqu wq n (me V1 d.1 d.2) (pv d L1)::F)) (fun s=>s.1≤l.length∧s.2.1=tw d (l.take s.1)) (fun s=>l.length - s.1) (0,[],none,0) ⟨rfl,rfl,rfl,rfl,rfl,trivial⟩ (Ent.refl _) ⟨Nat.zero_le _,rfl⟩ ?_
  rintro ⟨i,l6,A6,c6⟩ ⟨hi1,hl6⟩
  dsimp only at hi1 hl6 ⊢
  have hl6n:l6.length≤1000000:=by
   have h1:l6.length≤(l.take i).length:=by rw [hl6];exact List.length_filter_le _ _
   rw [List.length_take] at h1;omega
  refine ae <| bd4 <| bgj Z Z Z <| af Z <| df 4 Z Z Z <| bgi Z Z <| bd3 ?_
  by_cases h:i<l.length
  rotate_left
  ·refine cm 37 (.bool false) Z (congrArg Value.bool (decide_eq_false (by omega))) ?_
   rw [List.take_of_length_le (by omega)] at hl6
   subst hl6
   refine al Z <| bu <| av <| ax <| au <| aa <| ab <| bgj Z Z Z <| af Z <| iv 4 Z Z Z Z <| ad <| ba ?_
   refine bj (D2,me V1 d.1 d.2,pv d L1,zt d C1,k',A7,c7) ⟨rfl,rfl,trivial⟩ (((((ac 8 [6,4,0,2,1,7] Z Z).trans (arw d l)).trans (ac 6 [1,2,0,3,4,5] Z Z)).trans (pj (hG.off hn1 d))).trans (ac 4 [1,2,0,3] Z Z)) ⟨by dsimp only;omega,by dsimp only;omega,hsw,(ak7 d C1).nodup hn1,hL1.del hn1 d,by dsimp only;rw [← hD1];exact hnew.symm,hD2⟩ hlt
  refine cm 37 (.bool true) Z (congrArg Value.bool (decide_eq_true (by omega))) ?_
  obtain ⟨gA,oA,rfl⟩:=k4 (by omega)
  have hcD:∀ {F':List SP} {q:Nat},nth F' q=some (rCn (some ⟨gA,oA,none⟩) cg l.length l)→∀ w,Sat b F' w→∀ j,j<2→w.cell? ⟨gA,oA+i*3+j,none⟩ = [Value.int .i64 l[i].d.1,.int .i64 l[i].d.2][j]?:=fun hk w H=>atz hk h w H
  have hcx:∀ {F':List SP} {q:Nat},nth F' q=some (rCn (some ⟨gA,oA,none⟩) cg l.length l)→∀ w,Sat b F' w→∀ j,j<3→w.cell? ⟨gA,oA+i*3+j,none⟩=(cfC l[i])[j]?:=fun hk w H j hj=>ada hk h (j:=j) hj w H
  have hmem:=List.getElem_mem h
  have htk:=ana (d:=d) h
  generalize l[i]=y at *
  refine aq Z <| ao <| aa <| ae <| ar <| ae <| b7 flo (rO (some ⟨gR,oR,none⟩) c0 (d::T).length (d::T)::pt gw ic (rgC wq wt (some ⟨gA,oA,none⟩) cg l.length)::rCn (some ⟨gA,oA,none⟩) cg l.length l::F) (by decide +kernel) (ac 8 [3,4,5] Z Z) <| ay Z Zl <| ay Z Zl <| ay Z Zl <| de 1 Z Z Z Z <| ay Z Zl <| dj Z Z (by omega) <| ay Z Zl ?_
  refine fu Z (fun w H=>cn (cs:= [.int .i64 y.d.1,.int .i64 y.d.2]) Z Z Z Z (fun j hj=>by rw [bi,j7];exact hcD (q:=2) Z w H j hj)) Z Z ?_
  refine ay Z Zl ?_
  refine dj Z Z (by (simp;done)) ?_
  refine ri 0 (0*2) Z Z Z Z Z Z Z Z (by rw [bi];rfl) (by simp) fx Z ?_
  skip
  refine qz Z (abe Z Z (yq _ _ _ _)) Z Z ?_
  by_cases hd:y.d=d
  ·rw [if_neg (fun h=>h hd),List.append_nil] at htk
   refine b4 51 (.bool false) Z (congrArg Value.bool (by rw [decide_eq_true (p:=y.d.1=d.1∧y.d.2=d.2) (by rw [hd];exact ⟨rfl,rfl⟩)];rfl)) ?_
   refine az <| aa <| al Z <| ao <| ba <| aa <| ab <| af Z <| b5 Z (by (unfold I64;omega)) <| af Z <| ad ?_
   refine bj (i+1,l6,A6,c6) ⟨rfl,rfl,rfl,rfl,rfl,trivial⟩ (Ent.refl _) ⟨h,by dsimp only;rw [htk];exact hl6⟩ ?_
   show l.length - (i+1)<l.length - i
   omega
  ·rw [if_pos hd] at htk
   refine b4 51 (.bool true) Z (congrArg Value.bool (by rw [decide_eq_false (p:=y.d.1=d.1∧y.d.2=d.2) fun h=>hd (Prod.ext h.1 h.2)];rfl)) ?_
   refine az <| aa <| aq Z <| ab <| bgj Z Z Z <| af Z <| df 4 Z Z Z <| af Z <| b5 Z (by omega) ?_
   refine iu Z (fun w H=>cn (cs:=cfC y) Z Z Z Z (fun j hj=>by rw [bi,j7];exact hcx (q:=5) Z w H j hj)) Z ?_
   refine b9 (fun w H=>by exact du (yr (k:=6) Z hmem w H)) ?_
   rintro ⟨A3,c3,hev,_⟩
   refine ky (cs:=cfC y) Z Z Z Z Z Z Z Z (by decide) fun gl=> ?_
   refine dx 1 Z Z Z Z Z Z Z Z Z (m:=1) (news:=cfC y) (fun w H=>(H.blk (k:=0) Z).sl Z (by decide)) (by rw [cfC,hev];simp [Value.oneCell']) (by omega) (fun _=>rfl) fun v7=> ?_
   refine b9 (fun w H=>(H.oat (k:=1) Z).form) ?_
   rintro ⟨A8,c8,rfl,_,_,_⟩
   refine af Z <| ad <| ba <| aa <| ab <| af Z <| b5 Z (by (unfold I64;omega)) <| af Z <| ad ?_
   have e1:flC cfC l6++cfC y=flC cfC (l6 ++ [y]):=by simp only [mo,flC,List.append_nil]
   have e2:l6.length+1=(l6 ++ [y]).length:=by rw [List.length_append];rfl
   rw [e1,e2]
   refine bj (i+1,l6 ++ [y],A8,c8) ⟨rfl,rfl,rfl,rfl,rfl,trivial⟩ (ac 9 [1,2,3,4,5,6,7,8] Z Z) ⟨h,by dsimp only;rw [htk,hl6]⟩ ?_
   show l.length - (i+1)<l.length - i
   omega
 ·refine az <| ma 0 7 (R2:= [7,8,9,10]) Z Z (by decide +kernel) Z (ac 7 [0,1] Z Z) <| ay Z Zl <| ay Z Zl <| ay Z Zl <| de 1 Z Z Z Z <| ay Z Zl ?_
  refine dj Z Z (by (simp;done)) ?_
  refine ri 0 (0*2) Z Z Z Z Z Z Z Z (by rw [bi];rfl) (by simp) fx Z ?_
  skip
  refine az ?_
  refine uh (R2:= [8,9,10]) Z (by decide +kernel) Z Z (ac 7 [0,1] Z Z) ?_ ?_
  ·refine m6 Z Z Z Z Z Z (ac 7 [0,1] Z Z) fun g5=>az <| aht 7 4 Z Z (ac 8 [1,2] Z Z) <| dz Z Z Z Z ((hDel (A0:=pt g5 bo (evC ev0)::rO (some ⟨gR,oR,none⟩) c0 (d::T).length (d::T)::stX gw wq wt Ag cg l (rEn A c D.length D::all (evF D)::F))).ent (ac 8 [5,0,1,2,3,4,6,7] Z Z)) ?_
   rintro _ _ ⟨w,hw,rfl,rfl⟩
   refine ⟨ac 10 [4,5] Z rfl,(ay Z Zl <| ay Z Zl <| ay Z Zl <| az ?_)⟩
   exact J (g5,w) _ _ hw ⟨rfl,rfl,rfl,rfl,rfl,rfl,trivial⟩ (ac 10 [3,0,1,4,5,6,7,2,8,9] Z Z)
  ·refine dz Z Z Z Z ((hDel (A0:=rO (some ⟨gR,oR,none⟩) c0 (d::T).length (d::T)::stX gw wq wt Ag cg l (rEn A c D.length D::all (evF D)::F))).ent (ac 7 [4,0,1,2,3,5,6] Z Z)) ?_
   rintro _ _ ⟨w,hw,rfl,rfl⟩
   refine ⟨ac 9 [3,4] Z rfl,(az <| ma 8 3 (R2:= []) Z Z (by decide +kernel) Z (ac 9 [3,4] Z Z) <| ay Z Zl <| ay Z Zl <| ay Z Zl <| az <| ww Z (by decide +kernel) Z (ac 9 [3,4] Z Z) <| m6 Z Z Z Z Z Z (ac 9 [3,4] Z Z) fun g5=>az ?_)⟩
   exact J (g5,w) _ _ hw ⟨rfl,rfl,rfl,rfl,rfl,rfl,trivial⟩ (ac 10 [0,1,2,4,5,6,7,3,8,9] Z Z)
end

section
variable {b:World} {F:List SP} {va:Value} {l:List (List Int)}
section
variable {f:Nat} [Bodied Tryz.prog f] {pre post:List Value} (ha:∀ w,Sat b F w→SL w 32 va l.length (et l)) (hl:fw l) (hc:∀ x∈l,SC Tryz.prog f (pre++([idV x]++post)) b F (fun u F'=>u = .bool false∧F'=F))
include ha hl hc
set_option maxRecDepth 20000 in
set_option maxHeartbeats 2000000 in
theorem axo (hn:l.length≤1000000):SC Tryz.prog lf [va,.func (.func f) ⟨pre⟩ ⟨post⟩] b F (fun u F'=>u = .int .i64 (-1)∧F'=F):=by
 refine bf Tryz.func118 Z Z Z <| bt (fun w H=>du (ha w H)) ?_
 rintro ⟨A,c,rfl,_,_,_,h4,_⟩
 refine bd4 <| af Z <| bd3 <| ae <| bd4 <| bgj Z Z Z <| bd3 <| ar <| b6 (S:=Nat) (fun i=> [(0,.slice A l.length c),(1,.func (.func f) ⟨pre⟩ ⟨post⟩),(7,.int .i64 (l.length:Int)),(8,.int .i64 (i:Int))]) (fun _=>F) (fun i=>i≤l.length) (fun i=>l.length - i) 0 ⟨rfl,rfl,rfl,rfl,trivial⟩ (Ent.refl _) (Nat.zero_le _) ?_
 rintro i hi
 refine bd4 <| af Z <| bd3 <| ae ?_
 by_cases h1:i<l.length
 ·refine cm 9 (.bool true) Z (congrArg Value.bool (decide_eq_true (by omega))) ?_
  obtain ⟨gA,oA,rfl⟩:=h4 (by omega)
  have ca:=jt ha hl h1
  have hy:=hl _ (List.getElem_mem h1)
  have hcy:=hc _ (List.getElem_mem h1)
  generalize l[i]=y at *
  refine aq Z <| ao <| aa <| ae <| ar <| bd4 <| bgi Z Z <| a8r <| bgj Z Z Z <| b5 Z (by omega) ?_
  refine iu Z (fun w H=>cn (cs:=u8s y) Z Z Z (by rw [bg,hy];rfl) (fun j hj=>by rw [bi,Int.toNat_natCast];exact ca w H j (by rw [bg,hy] at hj;exact hj))) Z ?_
  refine bh Z Z Z (hcy) <| bd3 <| al Z <| ao <| ba <| aa <| ab <| b5 Z (by (unfold I64;omega)) <| af Z <| ad <| bj (i+1) ⟨rfl,rfl,rfl,rfl,trivial⟩ (Ent.refl _) h1 ?_
  show l.length - (i+1)<l.length - i
  omega
 ·refine cm 9 (.bool false) Z (congrArg Value.bool (decide_eq_false (by omega))) <| al Z <| bu <| av <| ax <| au <| aa <| bd4 <| af Z <| bd3 <| aj <| ai Z (.tmp Z .nil) (Ent.refl _) ?_
  exact ⟨rfl,rfl⟩
theorem aia (hn:l.length≤1000000):SC Tryz.prog kg [va,.func (.func f) ⟨pre⟩ ⟨post⟩] b F (fun u F'=>u = .bool false∧F'=F):=by
 refine bf Tryz.func65 Z Z Z <| bd4 <| af Z <| a8r <| bgi Z Z <| bh Z Z Z (axo ha hl hc hn) <| bgi Z Z <| bd3 <| aj <| ai Z (.tmp Z .nil) (Ent.refl _) ?_
 exact ⟨rfl,rfl⟩
end
set_option maxRecDepth 20000 in
set_option maxHeartbeats 2000000 in
theorem at5 (ha:∀ w,Sat b F w→SL w 32 va l.length (et l)) (hl:fw l) (hr:ahj l) (hn:l.length≤1000000):SC Tryz.prog o9 [va,a33] b F (fun u F'=>u = .bool true∧F'=F):=by
 refine bf Tryz.func116 Z Z Z <| bt (fun w H=>du (ha w H)) ?_
 rintro ⟨A,c,rfl,_,_,_,h4,_⟩
 refine bd4 <| af Z <| bd3 <| ae <| bd4 <| bgi Z Z <| b5 Z (by (unfold I64;omega)) <| af Z <| bd3 <| ar ?_
 refine b6 (S:=Int) (fun i=> [(0,.slice A l.length c),(1,a33),(5,.int .i64 i)]) (fun _=>F) (fun i=>i<l.length) (fun i=>i.toNat) ((l.length:Int) - 1) ⟨rfl,rfl,rfl,trivial⟩ (Ent.refl _) (by show (l.length:Int) - 1<l.length;omega) ?_
 rintro i hi
 refine ae <| bd4 <| bgi Z Z <| bd3 ?_
 by_cases h1:0<i
 ·refine cm 10 (.bool true) Z (congrArg Value.bool (decide_eq_true h1)) ?_
  obtain ⟨k,rfl⟩:∃ k:Nat,i=((k+1:Nat):Int):=⟨(i - 1).toNat,by omega⟩
  have hk1:k+1<l.length:=by omega
  have hk0:k<l.length:=by omega
  obtain ⟨gA,oA,rfl⟩:=h4 (by omega)
  have ca:=jt ha hl hk1
  have cb:=jt ha hl hk0
  have hy:=hl _ (List.getElem_mem hk1)
  have hz:=hl _ (List.getElem_mem hk0)
  have hlt:jd l[k] l[k+1]<0:=List.pairwise_iff_getElem.1 hr k (k+1) hk0 hk1 (by omega)
  generalize l[k+1]=y at *
  generalize l[k]=z at *
  have hge:¬ jd y z<0:=by
   have h3:jd y z = -jd z y:=yd _ _
   omega
  have e1:(((k+1:Nat):Int) - 1)=(k:Int):=by omega
  refine aq Z <| ao <| aa <| ae <| ar <| ae <| b7 flo _ (by decide +kernel) (Ent.refl _) <| ay Z Zl <| ay Z Zl <| ay Z Zl <| dj Z Z (by omega) ?_
  refine fu Z (fun w H=>cn (cs:=u8s y) Z Z Z (by rw [bg,hy];rfl) (fun j hj=>by rw [bi,Int.toNat_natCast];exact ca w H j (by rw [bg,hy] at hj;exact hj))) Z Z ?_
  refine ay Z Zl <| ay Z Zl <| dj Z Z (by (unfold I64;omega)) <| dj Z Z (by omega) ?_
  refine fu Z (fun w H=>cn (cs:=u8s z) Z Z Z (by rw [bg,hz];rfl) (fun j hj=>by rw [bi,e1,Int.toNat_natCast];exact cb w H j (by rw [bg,hz] at hj;exact hj))) Z Z ?_
  refine cz Z Z Z Z (zg (x:=y) (y:=z) hy hz) (Ent.refl _) <| ay Z Zl <| az <| aa <| cm 24 (.bool false) Z (congrArg Value.bool (decide_eq_false hge)) <| al Z <| ao <| ba <| aa <| ab <| af Z <| b5 Z (by (unfold I64;omega)) <| af Z <| ad ?_
  refine bj (k:Int) ⟨rfl,rfl,by rw [← e1];rfl,trivial⟩ (Ent.refl _) ?_ ?_
  ·show (k:Int)<l.length
   omega
  ·show ((k:Int)).toNat<(((k+1:Nat):Int)).toNat
   omega
 ·refine cm 10 (.bool false) Z (congrArg Value.bool (decide_eq_false h1)) <| al Z <| bu <| av <| ax <| au <| aa <| bd4 <| af Z <| bd3 <| aj <| ai Z (.tmp Z .nil) (Ent.refl _) ?_
  exact ⟨rfl,rfl⟩
set_option maxRecDepth 20000 in
set_option maxHeartbeats 2000000 in
theorem axp {A:Option Addr} {c:Nat} (ha:∀ w,Sat b F w→SL w 32 (.slice A l.length c) l.length (et l)) (hl:fw l) (hr:ahj l) (hn:l.length≤1000000):SC Tryz.prog q9 [.slice A l.length c] b F (fun u F'=>u = .slice A l.length c∧F'=F):=by
 refine bf Tryz.func117 Z Z Z <| bt (fun w H=>du (ha w H)) ?_
 rintro ⟨A',c',hv,_,_,_,h4,_⟩
 cases hv
 refine bd4 <| af Z <| bd3 <| ae <| bd4 <| bgj Z Z Z <| bd3 ?_
 by_cases h0:l.length<2
 ·refine cm 8 (.bool true) Z (congrArg Value.bool (decide_eq_true (by omega))) <| aq Z <| bd4 <| bgi Z Z <| bd3 <| aj <| ag <| ai Z (.tmp Z .nil) (Ent.refl _) ?_
  exact ⟨rfl,rfl⟩
 refine cm 8 (.bool false) Z (congrArg Value.bool (decide_eq_false (by omega))) ?_
 obtain ⟨gA,oA,rfl⟩:=h4 (by omega)
 refine al Z <| ao <| aa <| ae <| bd4 <| af Z <| bd3 <| ar ?_
 refine b6 (S:=Nat) (fun i=> [(0,.slice (some ⟨gA,oA,none⟩) l.length c),(3,.int .i64 ((i+1:Nat):Int))]) (fun _=>F) (fun i=>i+1≤l.length) (fun i=>l.length - i) 0 ⟨rfl,rfl,trivial⟩ (Ent.refl _) (by show 0+1≤l.length;omega) ?_
 rintro k hi
 refine ae <| bd4 <| bgj Z Z Z <| af Z <| bd3 ?_
 by_cases hk1:k+1<l.length
 ·refine cm 13 (.bool true) Z (congrArg Value.bool (decide_eq_true (by omega))) ?_
  have hk0:k<l.length:=by omega
  have ca:=jt ha hl hk1
  have cb:=jt ha hl hk0
  have hy:=hl _ (List.getElem_mem hk1)
  have hz:=hl _ (List.getElem_mem hk0)
  have hlt:jd l[k] l[k+1]<0:=List.pairwise_iff_getElem.1 hr k (k+1) hk0 hk1 (by omega)
  generalize l[k+1]=y at *
  generalize l[k]=z at *
  have hne:y≠z:=fun h=>by rw [h,am8] at hlt;omega
  have e1:(((k+1:Nat):Int) - 1)=(k:Int):=by omega
  refine aq Z <| ao <| aa <| ae <| ar <| ae <| b7 flo _ (by decide +kernel) (Ent.refl _) <| ay Z Zl <| ay Z Zl <| dj Z Z (by omega) ?_
  refine fu Z (fun w H=>cn (cs:=u8s y) Z Z Z (by rw [bg,hy];rfl) (fun j hj=>by rw [bi,Int.toNat_natCast];exact ca w H j (by rw [bg,hy] at hj;exact hj))) Z Z ?_
  refine ay Z Zl <| ay Z Zl <| dj Z Z (by (unfold I64;omega)) <| dj Z Z (by omega) ?_
  refine fu Z (fun w H=>cn (cs:=u8s z) Z Z Z (by rw [bg,hz];rfl) (fun j hj=>by rw [bi,e1,Int.toNat_natCast];exact cb w H j (by rw [bg,hz] at hj;exact hj))) Z Z ?_
  refine qz Z (yi (as00:=y) (bs:=z) Z Z hy hz) Z Z <| az <| aa <| cm 25 (.bool false) Z (congrArg Value.bool (decide_eq_false hne)) <| al Z <| ao <| ba <| aa <| ab <| af Z <| b5 Z (by (unfold I64;omega)) <| af Z <| ad ?_
  refine bj (k+1) ⟨rfl,rfl,trivial⟩ (Ent.refl _) (by show k+1+1≤l.length;omega) ?_
  show l.length - (k+1)<l.length - k
  omega
 ·refine cm 13 (.bool false) Z (congrArg Value.bool (decide_eq_false (by omega))) <| al Z <| bu <| av <| ax <| au <| aa <| bd4 <| bgi Z Z <| bd3 <| aj <| ai Z (.tmp Z .nil) (Ent.refl _) ?_
  exact ⟨rfl,rfl⟩
set_option maxRecDepth 20000 in
theorem a1m (ha:∀ w,Sat b F w→SL w 32 va l.length (et l)) (hl:fw l) (hr:ahj l) (hn:l.length≤1000000):SC Tryz.prog alh [va] b F (fun u F'=>u = .bool true∧F'=F):=by
 refine bf Tryz.func64 Z Z Z <| bt (fun w H=>du (ha w H)) ?_
 rintro ⟨A,c,rfl,_,_,_,h4,_⟩
 refine bd4 <| af Z <| a8r <| af Z <| bh Z Z Z (at5 ha hl hr hn) <| bgi Z Z <| bq Z Z Z (wi ha hn) ?_
 rintro v7 _ rfl
 refine b9 (fun w H=>(H.oat (k:=0) Z).form) ?_
 rintro ⟨A7,c7,rfl,_,_,_⟩
 refine bh Z Z Z (axp (fun w H=>(H.oat (k:=0) Z).sl) hl hr hn) ?_
 (iterate 6 refine af Z ?_)
 refine bd3 <| aj <| ai Z (.tmp Z .nil) (ac 1 [] Z Z) ?_
 exact ⟨by simp [agn],rfl⟩
end
section
variable {b:World} {F:List SP} {g gs:Nat} {x:List Int} {y:Ev} {s:Int} {w r:Int} {X:BL}
set_option maxRecDepth 20000 in
theorem bd2 (h32:y.id.length=32) (ha:∀ w,Sat b F w→SL w 32 y.rv y.refs.length (et y.refs)) (hr:fw y.refs) (hn:y.refs.length≤1000000) (hx:x.length=32) (hin:x∈y.refs):SC Tryz.prog afg [idV x,.pointer (some ⟨g,0,none⟩)] b (pt g b8 (wsC y s)::F) (fun u F'=>u = .bool false∧F'=pt g b8 (wsC y s)::F):=by
 refine bf Tryz.func60 Z Z Z <| bt (fun w H=>du (up ha (ac 1 [] Z Z) w H)) ?_
 rintro ⟨A,c,hv,_⟩
 refine bd4 <| cq Z Z Z Z Z fun g2=>af Z <| a8r <| bgi Z Z <| kr 1 Z Z Z Z Z Z ((ag8 h32).trans (congrArg some hv)) Z <| dk 0 Z Z Z Z Z Z (ig hx) Z ?_
 refine bh Z Z Z (wa (l:=y.refs) (fun w H=>by rw [← hv];exact up ha (ac 2 [] Z Z) w H) hr hx hn) ?_
 rw [decide_eq_true hin]
 refine bgi Z Z <| bd3 <| aj <| ai Z (.tmp Z .nil) (ac 2 [1] Z Z) ?_
 exact ⟨rfl,rfl⟩
theorem a8l {z:List Int} (hid:idOk x) (hf:km x X=some z):SC Tryz.prog vd [.pointer (some ⟨gs,0,none⟩),idV x] b (sto gs w r X::F) (fun v F'=>v = .tuple ⟨[.int .i64 z.length,.bool true]⟩∧F'=sto gs w r X::F):=by
 refine SC.opn ?_
 rintro ⟨gm,u,l⟩ ⟨hst,hX⟩
 dsimp only at hst hX
 show SC _ _ _ _ (stB gs gm w r u l F) _
 have hfx:=aix x l
 rw [hX,hf] at hfx
 cases hfd:kw x l with
 | none => rw [hfd] at hfx; cases hfx
 | some e =>
  rw [hfd] at hfx
  have hz:z=e.b:=by cases hfx;rfl
  refine (awo hid hfd (Nat.le_trans (hst.ln e (ahf hfd).1) (by decide))).out ?_
  rintro v _ ⟨h1,rfl⟩
  exact ⟨_,ib (G:=fun s:Nat × Int × List Kp=>stB gs s.1 w r s.2.1 s.2.2 []) (p:=fun s=>StI w r s.2.1 s.2.2∧s.2.2.map (fun e=>(e.id,e.b))=X) (gm,u,l) ⟨hst,hX⟩,by rw [hz];exact h1,rfl⟩
set_option maxRecDepth 20000 in
theorem a8m {z:List Int} (hid:idOk x) (hf:km x X=some z):SC Tryz.prog afh [idV x,.pointer (some ⟨g,0,none⟩)] b (pt g fb [.pointer (some ⟨gs,0,none⟩)]::sto gs w r X::F) (fun u F'=>u = .bool false∧F'=pt g fb [.pointer (some ⟨gs,0,none⟩)]::sto gs w r X::F):=by
 have i32:=hid.1
 refine bf Tryz.func62 Z Z Z <| bd4 <| cq Z Z Z Z Z fun g2=>af Z <| a8r <| df 1 Z Z Z <| dk 0 Z Z Z Z Z Z (ig i32) Z <| bh Z Z Z ((a8l (gs:=gs) (w:=w) (r:=r) (X:=X) (F:=pt g2 t_api_ID (u8s x)::pt g fb [.pointer (some ⟨gs,0,none⟩)]::F) hid hf).at (ac 3 [2,0,1] Z Z) (ac 3 [1,2,0] Z Z)) ?_
 (iterate 5 refine af Z ?_)
 refine a8r <| bgj Z Z Z <| bd3 <| aj <| ai Z (.tmp Z .nil) (ac 3 [1,2] Z Z) ?_
 exact ⟨rfl,rfl⟩
end

theorem ar0 {d:Int × Int} {ids:List (List Int)}:∀ {C:CL},d∉C.map (·.1)→zr d ids C=C ++ [(d,ids)]
 | [], _ => rfl
 | e :: C, h => by
  rw [List.map_cons,List.mem_cons,not_or] at h
  rw [zr,if_neg (fun h1=>h.1 h1.symm),ar0 h.2];rfl
theorem at6 {d:Int × Int} {l:List Pf} (h:d∉(prf l).map (·.1)):qf d l=none:=by
 induction l with
 | nil => rfl
 | cons e l ih =>
  rw [prf,List.map_cons,List.map_cons,List.mem_cons,not_or] at h
  rw [qf,if_neg fun h1=>h.1 h1.symm]
  exact ih h.2
theorem ald {n:Nat} {V:List Int} {L:List Wn} (hq:QI n V L) (C:CL):((je L C).map (·.1)).Nodup:=by
 rw [je,List.map_map]
 exact (List.filter_sublist.map (fun w:Wn=>dotW w)).nodup hq.nd
theorem zx {n:Nat} {w:Int} {V:List Int} {L:List Wn} {C:CL} {X:BL} (h:GI n w V L C X) (d:Int × Int):cfm d (je L C)=cfm d C:=by
 have key:∀ M:List Wn,(∀ w∈M,dotW w≠d∨agd d C=false)→cfm d (je M C) = []:=fun M=>by
  induction M with
  | nil => intro _; rfl
  | cons x M ih =>
   intro hM
   have ih:=ih fun w hw=>hM w (List.mem_cons_of_mem _ hw)
   unfold je at ih ⊢
   rw [List.filter_cons]
   split
   ·rename_i hh
    show (if dotW x=d then _ else cfm d (List.map _ _))=_
    rw [if_neg fun h1=> ?_]
    ·exact ih
    ·rcases hM x List.mem_cons_self with h2 | h2
     ·exact h2 h1
     ·subst h1;rw [h2] at hh;cases hh
   ·exact ih
 have hit:∀ M:List Wn,(∃ w∈M,dotW w=d)→agd d C=true→cfm d (je M C)=cfm d C:=fun M=>by
  induction M with
  | nil => rintro ⟨w, hw, _⟩; cases hw
  | cons x M ih =>
   rintro ⟨w,hw,hd⟩ hh
   unfold je at ih ⊢
   rw [List.filter_cons]
   by_cases hx:dotW x=d
   ·rw [if_pos (by rw [hx];exact hh)]
    show (if dotW x=d then cfm (dotW x) C else cfm d (List.map _ _))=_
    rw [if_pos hx,hx]
   ·have ih:=ih (by
     rcases List.mem_cons.1 hw with rfl | hw
     ·exact absurd hd hx
     ·exact ⟨w,hw,hd⟩) hh
    split
    ·show (if dotW x=d then _ else cfm d (List.map _ _))=_
     rw [if_neg hx];exact ih
    ·exact ih
 cases hc:agd d C with
 | false =>
  rw [key L fun w _=> .inr hc]
  have:∀ C:CL,agd d C=false→cfm d C = []:=fun C=>by
   induction C with
   | nil => intro _; rfl
   | cons e C ih =>
    intro h1
    have h2:(decide (e.1=d) || agd d C)=false:=h1
    rw [Bool.or_eq_false_iff] at h2
    rw [cfm,if_neg (of_decide_eq_false h2.1)]
    exact ih h2.2
  exact (this C hc).symm
 | true =>
  cases hcf:cfm d C with
  | nil =>
   by_cases hw:∃ w∈L,dotW w=d
   ·rw [hit L hw hc,hcf]
   ·exact key L fun w hw2=> .inl fun h1=>hw ⟨w,hw2,h1⟩
  | cons x t =>
   obtain ⟨y,hy,_⟩:=q8 (h.ref d x (by rw [hcf];exact List.mem_cons_self))
   rw [hit L ⟨y,fg hy⟩ hc,hcf]
theorem GI.state {n:Nat} {w:Int} {V:List Int} {L:List Wn} {C:CL} {X:BL} (h:GI n w V L C X):GI n w V L (je L C) X :=
 ⟨h.q,ald h.q C,fun d x hx=>h.ref d x (by rwa [zx h] at hx),fun d=>by rw [zx h];exact h.rise d,fun d x hx=>h.ids d x (by rwa [zx h] at hx),fun d x hx=>h.got d x (by rwa [zx h] at hx)⟩
theorem NE.state {C:CL} (h:NE C) (L:List Wn):NE (je L C):=fun e he=>by
 obtain ⟨w,hw,rfl⟩:=List.mem_map.1 he
 have h1:=(List.mem_filter.1 hw).2
 rw [h.has] at h1
 exact List.length_pos_iff.1 (of_decide_eq_true h1)
section
variable {b:World} {F:List SP} {gq gs n:Nat} {w r:Int} {V:List Int} {L:List Wn} {X:BL} {C:CL}
set_option maxRecDepth 20000 in
set_option maxHeartbeats 4000000 in
theorem a8n (hG:GI n w V L C X) (hN:NE C) (hw:w≠0) {A:Option Addr} {c:Nat} {T:List Pf} (hT:prf T=je L C):SC Tryz.prog ajs [.pointer (some ⟨gq,0,none⟩),.pointer (some ⟨gs,0,none⟩),.slice A T.length c] b (rCn A c T.length T::all (pF T)::que gq n V L::sto gs w r X::F) (fun v F'=>∃ gg,v = .tuple ⟨[.pointer (some ⟨gg,0,none⟩),.int .i64 0]⟩∧F'=gat gg gq gs (je L C)::rCn A c T.length T::all (pF T)::que gq n V L::sto gs w r X::F):=by
 have h0:V.length≠0:=by have:=hG.q.len;have:=hG.q.n1;omega
 have hTl:T.length≤100000:=by
  have h1:=congrArg List.length hT
  rw [prf,List.length_map] at h1
  have h2:(je L C).length≤L.length:=by rw [je,List.length_map];exact List.length_filter_le _ _
  have:=hG.q.many
  omega
 have hTk:((prf T).map (·.1)).Nodup:=by rw [hT];exact ald hG.q C
 have hTe:∀ e∈T,(∃ y,jc e.d L=some y∧(∀ x∈e.ids,x∈y.e.refs))∧j8 e.d∧e.ids≠ []∧ahj e.ids∧(∀ x∈e.ids,idOk x)∧e.ids.length≤1000000∧(∀ x∈e.ids,∃ z,km x X=some z):=fun e he=>by
  have h1:(e.d,e.ids)∈je L C:=by rw [← hT];exact List.mem_map.2 ⟨e,he,rfl⟩
  have hne:=hN.state L _ h1
  obtain ⟨y,hy,h2⟩:=List.mem_map.1 h1
  have hyL:=(List.mem_filter.1 hy).1
  have h3:dotW y=e.d:=congrArg Prod.fst h2
  have h4:cfm (dotW y) C=e.ids:=congrArg Prod.snd h2
  rw [h3] at h4
  have hf:jc e.d L=some y:=r6 hG.q.nd hyL h3
  refine ⟨⟨y,hf,fun x hx=> ?_⟩,by rw [← h3];exact hG.q.dotOk hyL,hne,by rw [← h4];exact hG.rise _,fun x hx=>hG.ids e.d x (by rw [h4];exact hx),by rw [← h4];exact (hG.ck e.d).2,fun x hx=> ?_⟩
  ·obtain ⟨y',hy',h5⟩:=q8 (hG.ref e.d x (by rw [h4];exact hx))
   rw [hf] at hy';cases hy';exact h5
  ·obtain ⟨z,hz,_⟩:=hG.got e.d x (by rw [h4];exact hx)
   exact ⟨z,hz⟩
 refine bf Tryz.func12 Z Z Z <| bd4 <| cq Z Z Z Z Z fun g4=>bgi Z Z <| bd3 <| ae <| bd4 <| af Z <| bq Z Z Z ((af8 (gq:=gq) (n:=n) (V:=V) (L:=L)).ent (ac 5 [3,0,1,2,4] Z Z)) ?_
 rintro u _ rfl
 refine b9 (fun w H=>(H.oat (k:=0) Z).form) ?_
 rintro ⟨A1,c1,rfl,_,_,_⟩
 refine bgj Z Z Z <| a9 21 (.bool false) Z (congrArg Value.bool (decide_eq_false (by omega))) <| df 2 Z Z Z <| bh Z Z Z ((aoy (gs:=gs) (w:=w) (r:=r) (X:=X) (F:=rZ (.slice A1 V.length c1) V::que gq n V L::pt g4 fb [.pointer (some ⟨gs,0,none⟩)]::rCn A c T.length T::all (pF T)::F)).at (ac 6 [5,0,1,2,3,4] Z Z) (ac 6 [1,2,3,4,5,0] Z Z)) <| bgi Z Z <| bd3 <| di Z (fun h=>absurd h hw) (fun h=>ao <| aa <| bd4 <| af Z <| df 2 Z Z Z <| ae9 ry j8 Z Z Z fun gp=>af Z <| cq Z Z Z Z Z fun gg=>af Z <| bd3 <| ae <| bd4 <| bgj Z Z Z <| bd3 <| ar <| abh (G:=pt gg eu (gtC gq gs gp)::mpG gp []::que gq n V L::pt g4 fb [.pointer (some ⟨gs,0,none⟩)]::rCn A c T.length T::all (pF T)::sto gs w r X::F) (ac 8 [0,1,3,4,5,6,7] Z Z) <| bt (fun w H=>(H.oat (k:=4) Z).form) ?_)
 rintro ⟨A',c',hv,kc,_,k4⟩
 cases hv
 refine b6 (S:=Nat × List Pf) (fun s=> [(0,.pointer (some ⟨gq,0,none⟩)),(4,.pointer (some ⟨g4,0,none⟩)),(8,.pointer (some ⟨gg,0,none⟩)),(31,.slice A T.length c),(32,.int .i64 (T.length:Int)),(33,.int .i64 (s.1:Int))]) (fun s=>pt gg eu (gtC gq gs gp)::mpG gp s.2::all (pF s.2)::que gq n V L::pt g4 fb [.pointer (some ⟨gs,0,none⟩)]::rCn A c T.length T::all (pF T)::sto gs w r X::F) (fun s=>s.1≤T.length∧prf s.2=prf (T.take s.1)) (fun s=>T.length - s.1) (0,[]) ⟨rfl,rfl,rfl,rfl,rfl,rfl,trivial⟩ ((ji (G:= [])).trans (ac 3 [1,2,0] Z Z)) ⟨Nat.zero_le _,rfl⟩ ?_
 rintro ⟨i,P⟩ ⟨hi,hP⟩
 dsimp only at hi hP ⊢
 refine bd4 <| af Z <| bd3 <| ae ?_
 by_cases h1:i<T.length
 rotate_left
 ·refine cm 34 (.bool false) Z (congrArg Value.bool (decide_eq_false (by omega))) ?_
  rw [List.take_of_length_le (by omega),hT] at hP
  refine al Z <| bu <| av <| ax <| au <| aa <| bd4 <| bgj Z Z Z <| bd3 <| aj <| ai Z (.tmp Z (.tmp Z .nil)) ((ac 8 [0,1,2,5,6,3,7] Z Z).trans (ib (G:=fun s:Nat × List Pf=>stG gg gq gs s.1 s.2 []) (p:=fun s=>prf s.2=je L C) (gp,P) hP)) ?_
  exact ⟨gg,rfl,rfl⟩
 refine cm 34 (.bool true) Z (congrArg Value.bool (decide_eq_true (by omega))) ?_
 obtain ⟨gA,oA,rfl⟩:=k4 (by omega)
 have hcx:∀ {F':List SP} {q:Nat},nth F' q=some (rCn (some ⟨gA,oA,none⟩) c T.length T)→∀ w,Sat b F' w→∀ j,j<3→w.cell? ⟨gA,oA+i*3+j,none⟩=(cfC T[i])[j]?:=fun hk w H j hj=>ada hk h1 (j:=j) hj w H
 have hmem:=List.getElem_mem h1
 obtain ⟨⟨y0,hy0,hin⟩,hdk,hne,hri,hio,hil,hfo⟩:=hTe _ hmem
 have hkey:T[i].d∉(prf P).map (·.1):=by
  rw [hP]
  intro hm
  rw [prf,List.map_map] at hm
  obtain ⟨e,he,h2⟩:=List.mem_map.1 hm
  obtain ⟨j,hj,rfl⟩:=List.mem_iff_getElem.1 he
  rw [List.length_take] at hj
  rw [prf,List.map_map] at hTk
  have h3:=List.pairwise_iff_getElem.1 hTk j i (by rw [List.length_map];omega) (by rw [List.length_map];exact h1) (by omega)
  rw [List.getElem_map,List.getElem_map] at h3
  rw [List.getElem_take] at h2
  exact h3 h2
 have hnx:prf (T.take (i+1))=prf (T.take i) ++ [(T[i].d,T[i].ids)]:=by rw [List.take_succ_eq_append_getElem h1,prf,List.map_append];rfl
 have hid32:fw T[i].ids:=fun x hx=>(hio x hx).1
 generalize T[i]=x at *
 obtain ⟨xd,ids,xv⟩:=x
 dsimp only at hy0 hin hdk hne hri hio hil hfo hkey hnx hid32
 have hl0:ids.length≠0:=fun h=>hne (List.length_eq_zero_iff.1 h)
 refine aq Z <| ao <| aa <| ae <| ar <| bd4 <| b5 Z (by omega) ?_
 refine iu Z (fun w H=>cn (cs:=cfC ⟨xd,ids,xv⟩) Z Z Z Z (fun j hj=>by rw [bi,j7];exact hcx (q:=5) Z w H j hj)) Z ?_
 refine b9 (fun w H=>by exact du (yr (k:=6) Z hmem w H)) ?_
 rintro ⟨A3,c3,hev,_⟩
 dsimp only at hev
 subst hev
 have har:∀ {F':List SP} {q:Nat},nth F' q=some (all (pF T))→∀ w,Sat b F' w→SL w 32 (.slice A3 ids.length c3) ids.length (et ids):=fun hk w H=>yr hk hmem w H
 refine ek Z Z Z Z Z fun g10=> ?_
 refine im 0 Z Z Z Z Z Z Z (rfl:(cfC ⟨xd,ids,.slice A3 ids.length c3⟩).length=3) (by simp [cfC,Value.oneCell']) Z ?_
 refine a8r <| bgi Z Z <| df 0 Z Z Z <| bq Z Z Z ((af9 (gq:=gq) (n:=n) (V:=V) (L:=L) (d:=xd) hdk hG.q).ent (ac 9 [4,0,1,2,3,5,6,7,8] Z Z)) ?_
 rintro _ _ ⟨y,s,is,hs,rfl,rfl⟩
 have h9:=hs.eq
 rw [ahd,hy0] at h9
 have his:is=true:=congrArg (fun z=>z.2.2) h9
 have hyr:y.refs=y0.e.refs:=congrArg (fun z=>z.1.refs) h9
 subst his
 have h32:=hs.ew.l32
 refine b9 (ux (e:=y) (i:=0) (j:=1) Z Z) fun hone=>bgj Z Z Z <| ek Z Z Z Z Z fun g11=> ?_
 refine im 0 Z Z Z Z Z Z Z (ec h32) (ng hone.1 hone.2) (by rw [ec h32];rfl) ?_
 refine af Z <| bd3 <| ae ?_
 have hg:ow xd (pM P)=none:=by rw [ak2,at6 hkey];rfl
 refine b7 flo (pt g10 ja (cfC ⟨xd,ids,.slice A3 ids.length c3⟩)::pt gg eu (gtC gq gs gp)::mpG gp P::F) (by decide +kernel) (ac 12 [4,5,6] Z Z) <| ay Z Zl <| ay Z Zl <| ay Z Zl <| de 1 Z Z Z Z <| ay Z Zl <| de 0 Z Z Z Z <| abk 2 uu hdk hg Z Z Z Z Z Z Z Z Z <| ay Z Zl <| ay Z Zl <| ay Z Zl <| m6 Z Z Z Z Z Z (ac 12 [4,5,6] Z Z) fun g13=> ?_
 skip
 refine qr (vs:= [.slice none 0 0]) 0 Z Z Z Z Z Z Z Z Z (by decide) Z (ac 13 [5,6,7] Z Z) <| ay Z Zl <| az <| aa <| bd4 <| bgi Z Z <| a8r <| bgi Z Z <| bd3 <| ae <| ar <| bd4 <| bgj Z Z Z <| bd3 <| al Z <| bd4 <| bgi Z Z <| bd3 <| al Z <| bd4 <| af Z <| df 5 Z Z Z <| bgj Z Z Z <| a9 66 (.bool false) Z (congrArg Value.bool (decide_eq_false (by omega))) <| af Z <| df 5 Z Z Z <| bh Z Z Z (a1m (l:=ids) (har (q:=11) Z) hid32 hri hil) <| bgj Z Z Z <| af Z <| df 5 Z Z Z <| af Z ?_
 refine bh Z Z Z (aia (f:=afg) (pre:= []) (post:= [.pointer (some ⟨g11,0,none⟩)]) (l:=ids) (har (q:=11) Z) hid32 (fun z hz=>(bd2 (g:=g11) (y:=y) (s:=s) (x:=z) (F:=pt g13 ru [.slice none 0 0]::rZ y.dv y.deps::rD y.rv y.refs::que gq n V L::pt g10 ja (cfC ⟨xd,ids,.slice A3 ids.length c3⟩)::pt gg eu (gtC gq gs gp)::mpG gp P::all (pF P)::pt g4 fb [.pointer (some ⟨gs,0,none⟩)]::rCn (some ⟨gA,oA,none⟩) c T.length T::all (pF T)::sto gs w r X::F) h32 (fun w H=>(H.oat (k:=2) Z).sl) hs.ew.r32 hs.ln.2 (hid32 z hz) (by rw [hyr];exact hin z hz)).at (ac 2 [1,0] Z Z) (ac 2 [1,0] Z Z)) hil) ?_
 refine bgi Z Z <| bd3 <| al Z <| bd4 <| af Z <| df 5 Z Z Z <| af Z ?_
 refine bh Z Z Z (aia (f:=afh) (pre:= []) (post:= [.pointer (some ⟨g4,0,none⟩)]) (l:=ids) (har (q:=11) Z) hid32 (fun z hz=>by
  obtain ⟨bz,hbz⟩:=hfo z hz
  exact (a8m (g:=g4) (gs:=gs) (w:=w) (r:=r) (X:=X) (x:=z) (F:=pt g13 ru [.slice none 0 0]::pt g11 b8 (wsC y s)::rZ y.dv y.deps::rD y.rv y.refs::que gq n V L::pt g10 ja (cfC ⟨xd,ids,.slice A3 ids.length c3⟩)::pt gg eu (gtC gq gs gp)::mpG gp P::all (pF P)::rCn (some ⟨gA,oA,none⟩) c T.length T::all (pF T)::F) (hio z hz) hbz).at (ac 13 [9,12,0,1,2,3,4,5,6,7,8,10,11] Z Z) (ac 13 [2,3,4,5,6,7,8,9,10,0,11,12,1] Z Z)) hil) ?_
 refine af Z <| bd3 <| al Z <| ao <| ba <| aa <| b7 flo (pt g10 ja (cfC ⟨xd,ids,.slice A3 ids.length c3⟩)::pt gg eu (gtC gq gs gp)::F) (by decide +kernel) (ac 13 [5,6] Z Z) <| ay Z Zl <| ay Z Zl <| ay Z Zl <| de 1 Z Z Z Z <| ay Z Zl <| de 0 Z Z Z Z <| ay Z Zl <| de 0 Z Z Z Z <| dz Z Z Z Z (wi (l:=ids) (har (q:=11) Z) hil) ?_
 rintro v91 _ rfl
 refine ⟨ac 14 [6,7] Z rfl,(ie (fun w H=>(H.oat (k:=0) Z).form) ?_)⟩
 rintro ⟨A9,c9,rfl,_,_,_⟩
 refine ay Z Zl ?_
 obtain ⟨P',p1,p2,B,p3⟩:=a03 xd (.slice A9 ids.length c9) ids P
 refine b4 92 (.agg ⟨[.slice A9 ids.length c9]⟩) Z Z <| anp 8 uu hdk Z Z Z Z Z Z Z Z Z (ac 14 [6,7] Z Z) <| az ?_
 rw [p1]
 refine ba <| aa <| ab <| b5 Z (by (unfold I64;omega)) <| af Z <| ad <| lv (G:= [rD (.slice A9 ids.length c9) ids]++(all (pF P)::pt gg eu (gtC gq gs gp)::mpG gp P'::que gq n V L::pt g4 fb [.pointer (some ⟨gs,0,none⟩)]::rCn (some ⟨gA,oA,none⟩) c T.length T::all (pF T)::sto gs w r X::F)) (ac 14 [0,9,7,8,5,10,11,12,13] Z Z) <| lv (ql (A:=rD (.slice A9 ids.length c9) ids::pF P) (.refl _)) <| lv (tz p3) <| lv (arv B) ?_
 refine bj (i+1,P') ⟨rfl,rfl,rfl,rfl,rfl,rfl,trivial⟩ (ac 3 [1,2,0] Z Z) ⟨h1,by dsimp only;rw [p2,ar0 hkey,hP,hnx]⟩ ?_
 show T.length - (i+1)<T.length - i
 omega
end

theorem GI.hl {n:Nat} {w:Int} {V:List Int} {L:List Wn} {C:CL} {X:BL} (h:GI n w V L C X):HL L C:=fun d hd=>by
 cases hc:cfm d C with
 | nil => exact absurd hc hd
 | cons x t =>
  obtain ⟨y,hy,_⟩:=q8 (h.ref d x (by rw [hc];exact List.mem_cons_self))
  exact ⟨y,fg hy⟩
theorem a8o {n:Nat} {w:Int} {V:List Int} {L:List Wn} {C:CL} {X:BL} (h:GI n w V L C X) {D:List Ev} (hD:D.map nE=(pw V L C).1):∀ x∈D,x.id.length=32∧fw x.refs∧x.refs.length≤1000000∧x.deps.length≤1000000:=fun x hx=>by
 have h1:nE x∈(pw V L C).1:=by rw [← hD];exact List.mem_map.2 ⟨x,hx,rfl⟩
 obtain ⟨y,hy,h2⟩:=avr _ h _ h1
 have h3:x.id=y.e.id:=(congrArg Ev.id h2:(nE x).id=(nE y.e).id)
 have h4:x.refs=y.e.refs:=(congrArg Ev.refs h2:(nE x).refs=(nE y.e).refs)
 have h6:x.deps=y.e.deps:=(congrArg Ev.deps h2:(nE x).deps=(nE y.e).deps)
 have h5:=h.q.ew y hy
 rw [h3,h4,h6]
 exact ⟨h5.l32,h5.r32,h.q.rf y hy,(h.q.lds hy).1⟩
def pfX:Pf:=⟨(-7,0),[],.slice none 0 0⟩
section
variable {b:World} {F:List SP}
set_option maxRecDepth 20000 in
set_option maxHeartbeats 4000000 in
theorem aa2 {A:Option Addr} {c:Nat} {T:List Pf} (h32:∀ e∈T,fw e.ids∧e.ids.length≤1000000) (hm:T.length≤1000000):SC Tryz.prog vt [.slice A T.length c] b (rCn A c T.length T::all (pF T)::F) (fun _ F'=>F'=F):=by
 refine bf Tryz.func50 Z Z Z <| bt (fun w H=>(H.oat (k:=0) Z).form) ?_
 rintro ⟨A',c',hv,k1,k2,k3⟩
 cases hv
 refine bd4 <| af Z <| bd3 <| ar <| b6 (S:=Nat × List Pf) (fun s=> [(0,.slice A T.length c),(2,.int .i64 (s.1:Int))]) (fun s=>rCn A c T.length s.2::all (pF (s.2.drop s.1))::F) (fun s=>s.1≤T.length∧s.2.drop s.1=T.drop s.1∧s.2.length=T.length) (fun s=>T.length - s.1) (0,T) ⟨rfl,rfl,trivial⟩ (Ent.refl _) ⟨Nat.zero_le _,rfl,rfl⟩ ?_
 rintro ⟨i,m⟩ ⟨i1,i2,i3⟩
 dsimp only at i1 i2 i3 ⊢
 refine ae <| bd4 <| bgj Z Z Z <| af Z <| bd3 ?_
 refine di Z (fun h1=> ?_) (fun h1=> ?_)
 ·have h1':i<T.length:=by omega
  obtain ⟨gA,oA,rfl⟩:=k3 (by omega)
  have h2':i<m.length:=by omega
  have hml:m[i]=T[i]:=by
   have:=congrArg (·[0]?) i2
   simpa [h1',h2'] using this
  have hmem:=List.getElem_mem h1'
  obtain ⟨e32,er⟩:=h32 _ hmem
  have hdr:m.drop i=T[i]::m.drop (i+1):=by rw [← hml];exact List.drop_eq_getElem_cons h2'
  have hset:spl (flC cfC m) (i*3) (cfC pfX)=flC cfC (m.set i pfX):=aaf (f:=cfC) (sz:=3) (fun _ _=>rfl) (x:=pfX) Z h2'
  have hcm:∀ j,j<3→(flC cfC m)[i*3+j]? = (cfC T[i])[j]?:=fun j hj=>by rw [aem (f:=cfC) (sz:=3) (fun _ _=>rfl) h2' hj,hml]
  have hlenm:(flC cfC m).length=m.length*3:=vo (f:=cfC) (sz:=3) (fun _ _=>rfl)
  have hdr2:(m.set i pfX).drop (i+1)=m.drop (i+1):=by rw [List.drop_set_of_lt (by omega)]
  have hdr3:m.drop (i+1)=T.drop (i+1):=by
   have:=congrArg (List.drop 1) i2
   rwa [List.drop_drop,List.drop_drop] at this
  generalize T[i]=x at *
  refine abh (G:=rD x.v x.ids::rCn (some ⟨gA,oA,none⟩) c T.length m::all (pF (m.drop (i+1)))::F) (by
   rw [hdr]
   exact (ac 2 [1,0] Z Z).trans ((tz (A:=pF (x::m.drop (i+1))) (B:= [rD x.v x.ids]) (C:=pF (m.drop (i+1))) (.refl _)).trans (ac 3 [0,2,1] Z Z))) ?_
  refine ao <| aa <| ae <| ar <| bd4 <| bgi Z Z <| b5 Z (by omega) <| af Z ?_
  refine iu Z (fun w H=>bm (v:=x.v) Z Z Z (by rw [bi,Int.toNat_natCast,Nat.add_assoc];exact nq (k:=1) Z ((hcm 2 (by omega)).trans Z) w H)) Z ?_
  refine bq Z Z Z (amo (v:=x.v) (l:=x.ids) e32 er) ?_
  rintro _ _ rfl
  refine bd3 <| ab <| bgj Z Z Z <| af Z <| b5 Z (by omega) <| a9 18 (.agg ⟨cfC pfX⟩) Z Z ?_
  refine uf 0 (i*3) Z Z Z Z Z Z Z Z hset Z (by rw [bi,Int.toNat_natCast]) (by rw [hlenm];have:(cfC pfX).length=3:=rfl;omega) (by simp [cfC,pfX,Value.oneCell']) ?_
  refine ad <| ba <| aa <| ab <| af Z <| b5 Z (by (unfold I64;omega)) <| af Z <| ad ?_
  refine bj (i+1,m.set i pfX) ⟨rfl,rfl,trivial⟩ (by simp only [hdr2];exact Ent.refl _) ⟨by dsimp only;omega,by dsimp only;rw [hdr2,hdr3],by dsimp only;rw [List.length_set];exact i3⟩ (by dsimp only;omega)
 ·refine bu <| av <| ax <| au <| m5 Z .nil (ac 2 [] Z Z) ?_
  rfl
end

abbrev avt (gg gq gs gw wq wt n:Nat) (w r:Int) (V:List Int) (L:List Wn) (C:CL) (X:BL) (F:List SP):List SP:=gat gg gq gs C::que gq n V L::sto gs w r X::rgt gw wq wt C::rqu wq n V L::wd wt w r X::F
structure AI (n:Nat) (w:Int) (V:List Int) (L:List Wn) (C:CL) (X:BL) (i:Nat):Prop where
 g:GI n w V L C X
 ne:NE C
 sm:xq L
 xl:X.length≤i
theorem a1n {L:List Wn} {X:BL} {d:Int × Int} {id xs:List Int} {w r:Int} {i:Nat} (h:X.length≤i):(ol L X d id xs w r).length≤i+1:=by
 unfold ol yt
 repeat' split
 all_goals (try simp only [List.length_append,List.length_singleton])
 all_goals omega
set_option maxRecDepth 20000 in
set_option maxHeartbeats 4000000 in
theorem alz {W:World} {n width room:Int} {v:Value} {l:List Ag} (h:GLs W v l):Calls Tryz.prog ym #[.int .i64 n,.int .i64 width,.int .i64 room,v] W (fun e w'=>e = .returned (.bool true)∧Ext W w'):=by
 refine a6c (args:= [.int .i64 n,.int .i64 width,.int .i64 room,v]) ?_
 have hl:∀ {F:List SP} {k:Nat},nth F k=some (Is W)→∀ w,Sat W F w→GL w v l:=fun hk w H=>h.gl.ext (H.is hk)
 have h32:∀ a∈l,a.e.id.length=32∧a.id.length=32:=fun a ha=>⟨(h.ew a ha).l32,(h.id a ha).1⟩
 obtain ⟨A0,c0,rfl,_,_,_,k4,_⟩:=du h.gl.sl
 refine bf Tryz.func7 Z Z Z <| bd4 <| af Z <| bd3 <| ae <| bd4 <| af Z <| bq Z Z Z (a1b (hl (k:=0) Z) h32) ?_
 rintro _ _ ⟨q,hq,rfl,rfl⟩
 cases q with
 | true =>
  refine bd3 <| aq Z <| bd4 <| bh Z Z Z (am3) <| af Z <| bd3 <| aj <| ag <| ai Z (.tmp Z .nil) (Ent.refl _) ?_
  exact ⟨rfl,rfl⟩
 | false =>
 obtain ⟨hl40,hla⟩:=hq Z
 refine bd3 <| al Z <| ao <| aa <| bd4 <| af Z ?_
 refine bh Z Z Z (as7 (by unfold I64;omega)) ?_
 refine b5 Z (by (unfold I64;omega)) <| af Z ?_
 refine bh Z Z Z (as7 (by unfold I64;omega)) ?_
 refine b5 Z (by (unfold I64;omega)) <| af Z ?_
 refine bh Z Z Z (as7 (by unfold I64;omega)) ?_
 obtain ⟨m,hm⟩:∃ m:Nat,1+(if (16:Int)≤0 then 0 else n % 16)=(m:Int):=⟨(1+n % 16).toNat,by rw [if_neg (by omega)];omega⟩
 have hm16:1≤m∧m≤16:=by rw [if_neg (by omega)] at hm;omega
 obtain ⟨w,hw⟩:∃ w:Int,1+(if (32:Int)≤0 then 0 else width % 32)=w:=⟨_,rfl⟩
 have hw32:1≤w∧w≤32:=by rw [if_neg (by omega)] at hw;omega
 obtain ⟨r,hr⟩:∃ r:Int,(if (500:Int)≤0 then 0 else room % 500)=r:=⟨_,rfl⟩
 have hr500:0≤r∧r<500:=by rw [if_neg (by omega)] at hr;omega
 have hok:ah2 w r:=by unfold ah2;omega
 rw [hm,hw,hr]
 clear hm hw hr
 refine bgj Z Z Z <| a8r <| af Z <| bq Z Z Z (a5l (n:=m) hm16.1 hm16.2) ?_
 rintro _ _ ⟨gq,rfl,rfl⟩
 (iterate 5 refine af Z ?_)
 refine a8r <| bgi Z Z <| bq Z Z Z (avj (w:=w) (r:=r) hok) ?_
 rintro _ _ ⟨gs,rfl,rfl⟩
 (iterate 5 refine af Z ?_)
 refine a8r <| bgi Z Z ?_
 refine bq Z Z Z ((a5m (V:=List.replicate m 0) (L:= []) (X:= []) (w:=w) (r:=r) (n:=m) (by rw [List.length_replicate];omega) (by omega)).ent (ac 2 [1,0] Z Z)) ?_
 rintro _ _ ⟨gg,rfl,rfl⟩
 (iterate 5 refine af Z ?_)
 refine a8r <| af Z <| bq Z Z Z (a7p (n:=m) hm16.1 hm16.2) ?_
 rintro _ _ ⟨wq,rfl,rfl⟩
 (iterate 5 refine af Z ?_)
 refine a8r <| bgi Z Z <| bq Z Z Z (a1g (w:=w) (r:=r) hok) ?_
 rintro _ _ ⟨wt,rfl,rfl⟩
 (iterate 5 refine af Z ?_)
 refine a8r <| bgi Z Z <| bq Z Z Z (a1h (wq:=wq) (wt:=wt)) ?_
 rintro _ _ ⟨gw,rfl,rfl⟩
 (iterate 5 refine af Z ?_)
 refine bd3 <| ae <| bd4 ?_
 (iterate 14 refine af Z ?_)
 refine bd3 <| al Z <| ao <| aa <| ae <| bd4 <| af Z <| bd3 <| ar ?_
 refine b6 (S:=Nat × Nat × List Int × List Wn × CL × BL) (fun s=> [(3,.slice A0 l.length c0),(9,.pointer (some ⟨gq,0,none⟩)),(11,.pointer (some ⟨gs,0,none⟩)),(13,.pointer (some ⟨s.2.1,0,none⟩)),(15,.pointer (some ⟨wq,0,none⟩)),(17,.pointer (some ⟨wt,0,none⟩)),(19,.pointer (some ⟨gw,0,none⟩)),(21,.int .i64 (s.1:Int))])
  (fun s=>avt s.2.1 gq gs gw wq wt m w r s.2.2.1 s.2.2.2.1 s.2.2.2.2.1 s.2.2.2.2.2 [Is W])
  (fun s=>s.1≤l.length∧AI m w s.2.2.1 s.2.2.2.1 s.2.2.2.2.1 s.2.2.2.2.2 s.1) (fun s=>l.length - s.1) (0,gg,List.replicate m 0,[],[],[]) ⟨rfl,rfl,rfl,rfl,rfl,rfl,rfl,rfl,trivial⟩ (ac 6 [3,4,5,0,2,1] Z Z) ⟨Nat.zero_le _,GI.start hm16.1 hm16.2 [],fun e he=>(by cases he),⟨Nat.zero_le _,fun w hw=>(by cases hw)⟩,Nat.zero_le _⟩ ?_
 clear gg
 rintro ⟨i,gg,V,L,C,X⟩ ⟨hi,hI⟩
 dsimp only at hi hI ⊢
 refine ae <| bd4 <| bgj Z Z Z <| af Z <| bd3 ?_
 by_cases h1:i<l.length
 rotate_left
 ·refine cm 103 (.bool false) Z (congrArg Value.bool (decide_eq_false (by omega))) <| al Z <| bu <| av <| ax <| au <| aa <| bd4 <| bh Z Z Z (am3) <| af Z <| bd3 <| aj <| ai Z (.tmp Z .nil) (ac 7 [6] Z Z) ?_
  exact ⟨rfl,rfl⟩
 refine cm 103 (.bool true) Z (congrArg Value.bool (decide_eq_true (by omega))) ?_
 obtain ⟨bk,off,rfl⟩:=k4 (by omega)
 have hmem:=List.getElem_mem h1
 have hc:∀ {F:List SP} {k:Nat},nth F k=some (Is W)→∀ w,Sat W F w→∀ j,j<76→w.cell? ⟨bk,off+i*76+j,none⟩=(agC l[i])[j]?:=fun hk w H j hj=>lr (hl hk w H).sl (fun a ha=>ao4 (h32 a ha).1 (h32 a ha).2) h1 hj
 have her:∀ {F:List SP} {k:Nat},nth F k=some (Is W)→∀ w,Sat W F w→ER w l[i].e:=fun hk w H=>(hl hk w H).er _ hmem
 have hbr:∀ {F:List SP} {k:Nat},nth F k=some (Is W)→∀ w,Sat W F w→VL (Value.int .u8) w l[i].bv l[i].bs:=fun hk w H=>(hl hk w H).br _ hmem
 have hA:=h.aw hmem (hla _ hmem)
 have hr20:=(hla _ hmem).2.1
 have hb60:=(hla _ hmem).2.2
 generalize l[i]=x at *
 have e32:=hA.ew.l32
 have i32:=hA.id.1
 have hxl:=ao4 e32 i32
 obtain ⟨hG,hN,hS,hX⟩:=hI
 refine aq Z <| ao <| aa <| ae <| ar <| bd4 <| bgi Z Z <| b5 Z (by omega) ?_
 refine iu Z (fun w H=>cn (cs:=agC x) Z Z Z hxl (fun j hj=>by rw [hxl] at hj;rw [bi,j7];exact hc (k:=6) Z w H j hj)) Z ?_
 refine b9 (fun w H=>(her (k:=6) Z w H).dv.form) ?_
 rintro ⟨Ad,cd,hdv,_⟩
 refine b9 (fun w H=>du (her (k:=6) Z w H).rv) ?_
 rintro ⟨Ar,cr,hrv,_⟩
 refine b9 (fun w H=>(hbr (k:=6) Z w H).form) ?_
 rintro ⟨Ab,cb,hbv,_⟩
 refine ek Z Z Z Z Z fun g22=> ?_
 refine im 0 Z Z Z Z Z Z Z hxl (fun u hu=>by
  unfold agC at hu
  rcases List.mem_cons.1 hu with rfl | hu
  ·rfl
  ·rcases List.mem_append.1 hu with hu | hu
   ·exact kj (by rw [hdv];rfl) (by rw [hrv];rfl) u hu
   ·rcases List.mem_cons.1 hu with rfl | hu
    ·rfl
    ·rcases List.mem_cons.1 hu with rfl | hu
     ·rfl
     ·rcases List.mem_cons.1 hu with rfl | hu
      ·rfl
      ·rcases List.mem_append.1 hu with hu | hu
       ·exact dt _ u hu
       ·rw [List.mem_singleton.1 hu,hbv];rfl) (by rw [hxl];rfl) ?_
 refine af Z <| bd3 <| ae ?_
 refine wv (S':=Nat × Value × Value × Option Addr × Nat) flo 6 0 0 [0,1,2,3,4,5] (OT.pre [7,8] .nil) (pt g22 jf (agC x) :: [Is W]) Z (by decide +kernel) Z (ac 8 [0,7] Z Z) (fun q=> [(3,.slice (some ⟨bk,off,none⟩) l.length c0),(9,.pointer (some ⟨gq,0,none⟩)),(11,.pointer (some ⟨gs,0,none⟩)),(13,.pointer (some ⟨gg,0,none⟩)),(15,.pointer (some ⟨wq,0,none⟩)),(17,.pointer (some ⟨wt,0,none⟩)),(19,.pointer (some ⟨gw,0,none⟩)),(21,.int .i64 (i:Int)),(22,.pointer (some ⟨g22,0,none⟩)),(23,.bool true),(24,.pointer (some ⟨q.1,0,none⟩)),(112,evV (x.e.own q.2.1 q.2.2.1)),(115,.slice q.2.2.2.1 x.bs.length q.2.2.2.2)])
  (fun q=>pt q.1 bo (evC ev0)::rZ q.2.1 x.e.deps::rD q.2.2.1 x.e.refs::rL q.2.2.2.1 q.2.2.2.2 x.bs::pt g22 jf (agC x)::avt gg gq gs gw wq wt m w r V L C X [Is W]) (fun q=>True) (fun q _=>ac 12 [4,11] Z Z) ?_ (fun J=> ?_)
 rotate_left
 ·refine az <| ma 0 2 (R2:= [2,3,4,5]) Z Z (by decide +kernel) Z (ac 8 [0,7] Z Z) <| ay Z Zl <| jm 0 Z Z Z Z Z Z (a1c e32) Z Z <| az ?_
  refine uh (R2:= [3,4,5]) Z (by decide +kernel) Z Z (ac 8 [0,7] Z Z) ?_ ?_
  ·refine m6 Z Z Z Z Z Z (ac 8 [0,7] Z Z) fun g24=>az <| aht 2 4 Z Z (ac 9 [1,8] Z Z) <| dz Z Z Z Z (uw (e:=x.e) (her (k:=8) Z) e32 hA.dl hA.rl) ?_
   rintro _ _ ⟨dv,rv,rfl,rfl⟩
   refine ⟨ac 11 [3,10] Z rfl,(ay Z Zl <| nl 0 Z Z Z Z Z Z (avq e32 i32) Z Z <| dz Z Z Z Z (acj hA.bl (hbr (k:=10) Z)) ?_)⟩
   rintro _ _ ⟨A25,c25,rfl,rfl⟩
   refine ⟨ac 12 [4,11] Z rfl,(az ?_)⟩
   exact J (g24,dv,rv,A25,c25) _ _ trivial ⟨rfl,rfl,rfl,rfl,rfl,rfl,rfl,rfl,rfl,rfl,rfl,rfl,rfl,trivial⟩ (ac 4 [3,1,2,0] Z Z)
  ·refine dz Z Z Z Z (uw (e:=x.e) (her (k:=7) Z) e32 hA.dl hA.rl) ?_
   rintro _ _ ⟨dv,rv,rfl,rfl⟩
   refine ⟨ac 10 [2,9] Z rfl,(az <| ma 3 2 (R2:= [5]) Z Z (by decide +kernel) Z (ac 10 [2,9] Z Z) <| ay Z Zl <| nl 0 Z Z Z Z Z Z (avq e32 i32) Z Z <| az ?_)⟩
   refine uh (R2:= []) Z (by decide +kernel) Z Z (ac 10 [2,9] Z Z) ?_ ?_
   ·refine m6 Z Z Z Z Z Z (ac 10 [2,9] Z Z) fun g24=>az <| aht 5 1 Z Z (ac 11 [3,10] Z Z) <| dz Z Z Z Z (acj hA.bl (hbr (k:=10) Z)) ?_
    rintro _ _ ⟨A25,c25,rfl,rfl⟩
    refine ⟨ac 12 [4,11] Z rfl,(az ?_)⟩
    exact J (g24,dv,rv,A25,c25) _ _ trivial ⟨rfl,rfl,rfl,rfl,rfl,rfl,rfl,rfl,rfl,rfl,rfl,rfl,rfl,trivial⟩ (ac 4 [1,2,3,0] Z Z)
   ·refine dz Z Z Z Z (acj hA.bl (hbr (k:=9) Z)) ?_
    rintro _ _ ⟨A25,c25,rfl,rfl⟩
    refine ⟨ac 11 [3,10] Z rfl,(az <| ww Z (by decide +kernel) Z (ac 11 [3,10] Z Z) <| m6 Z Z Z Z Z Z (ac 11 [3,10] Z Z) fun g24=>az ?_)⟩
    exact J (g24,dv,rv,A25,c25) _ _ trivial ⟨rfl,rfl,rfl,rfl,rfl,rfl,rfl,rfl,rfl,rfl,rfl,rfl,rfl,trivial⟩ (ac 4 [0,2,3,1] Z Z)
 rintro ⟨g24,dv,rv,A25,c25⟩ _
 dsimp only
 refine mg 7 2 .nil Z Z ?_
 have hew:=hA.ew.own dv rv
 have el':=cu hew.l32
 refine ie (ux (e:=x.e.own dv rv) (i:=1) (j:=2) Z Z) fun hone=> ?_
 refine qr (vs:=evC (x.e.own dv rv)) 0 Z Z Z Z Z Z Z Z el' (kj hone.1 hone.2) (by rw [el'];rfl) (ac 12 [4,11] Z Z) ?_
 refine ay Z Zl <| az <| vp <| aa ?_
 refine wu (S:=Nat × List Int × List Wn × CL × BL) (fun s=> [(3,.slice (some ⟨bk,off,none⟩) l.length c0),(9,.pointer (some ⟨gq,0,none⟩)),(11,.pointer (some ⟨gs,0,none⟩)),(13,.pointer (some ⟨s.1,0,none⟩)),(15,.pointer (some ⟨wq,0,none⟩)),(17,.pointer (some ⟨wt,0,none⟩)),(19,.pointer (some ⟨gw,0,none⟩)),(21,.int .i64 (i:Int)),(23,.bool true)])
  (fun s=>avt s.1 gq gs gw wq wt m w r s.2.1 s.2.2.1 s.2.2.2.1 s.2.2.2.2 [Is W]) (fun s=>AI m w s.2.1 s.2.2.1 s.2.2.2.1 s.2.2.2.2 (i+1)) ?_ ?_
 ·refine bd4 <| af Z <| df 4 Z Z Z <| bd3 <| ar <| bd4 <| bgi Z Z <| bd3 ?_
  by_cases k0:x.kind=0
  ·refine cm 118 (.bool true) Z (congrArg Value.bool (decide_eq_true k0)) ?_
   have hG1:=hG.add (w:=w) (s:=x.frm) hA.ew hA.rl
   refine aq Z <| bd4 <| af Z ?_
   refine dk 0 Z Z Z Z Z Z (fd (by rw [el'];rfl)) Z ?_
   refine af Z <| kr 4 Z Z Z Z Z Z (avp e32) Z <| bq Z Z Z ((a5n (gg:=gg) (gq:=gq) (gs:=gs) (n:=m) (w:=w) (r:=r) (V:=V) (L:=L) (X:=X) (C:=C) (e:=x.e.own dv rv) (s:=x.frm) (F:=pt g24 bo (evC (x.e.own dv rv))::rZ dv x.e.deps::rD rv x.e.refs::rL A25 c25 x.bs::pt g22 jf (agC x)::rgt gw wq wt C::rqu wq m V L::wd wt w r X :: [Is W]) (ER.of_rows (e:=x.e.own dv rv) (i:=1) (j:=2) Z Z) hew ⟨hA.el.dn,hA.el.rn,hA.el.ps,hA.el.ts⟩ hA.dl hA.rl).ent (ac 12 [5,6,7,0,1,2,3,4,8,9,10,11] Z Z)) ?_
   rintro _ _ ⟨rfl,rfl⟩
   have o1:aa1 V L w (x.e.own dv rv) x.frm=aa1 V L w x.e x.frm:=rfl
   have o2:acs V L w (x.e.own dv rv) x.frm=acs V L w x.e x.frm:=rfl
   have o3:qe V L w (x.e.own dv rv) x.frm=qe V L w x.e x.frm:=rfl
   rw [o1,o2,o3]
   (iterate 5 refine af Z ?_)
   refine a8r <| bgi Z Z <| dk 7 Z Z Z Z Z Z (a1c e32) Z <| af Z <| kr 7 Z Z Z Z Z Z (avp e32) Z <| bq Z Z Z ((a1k (gw:=gw) (wq:=wq) (wt:=wt) (n:=m) (w:=w) (r:=r) (V:=V) (L:=L) (X:=X) (C:=C) (e:=x.e) (s:=x.frm) (F:=gat gg gq gs C::que gq m V (qe V L w x.e x.frm)::sto gs w r X::pt g24 bo (evC (x.e.own dv rv))::rZ dv x.e.deps::rD rv x.e.refs::rL A25 c25 x.bs::pt g22 jf (agC x) :: [Is W]) (her (k:=8) Z) hA.ew hA.el hA.dl hA.rl).ent (ac 12 [8,9,10,0,1,2,3,4,5,6,7,11] Z Z)) ?_
   rintro _ _ ⟨rfl,rfl⟩
   (iterate 5 refine af Z ?_)
   refine a8r <| bgj Z Z Z <| af Z ?_
   refine a9 140 (.bool true) Z (congrArg Value.bool (by generalize aa1 V L w x.e x.frm=q;cases q <;> rfl)) ?_
   (iterate 5 refine af Z ?_)
   refine a9 145 (.bool true) Z (by simp) ?_
   skip
   refine dk 6 Z Z Z Z Z Z (fd (by rw [el'];rfl)) Z ?_
   refine af Z <| dk 10 Z Z Z Z Z Z (a1c e32) Z <| bh Z Z Z (ah3 (e:=x.e.own dv rv) (f:=x.e) Z (ER.of_rows (e:=x.e.own dv rv) (i:=7) (j:=8) Z Z) (her (k:=11) Z) hew.l32 hew.r32 hA.rl) <| bgi Z Z <| bd3 <| ab ?_
   refine dk 6 Z Z Z Z Z Z (fd (by rw [el'];rfl)) Z ?_
   refine ky (cs:=evC (x.e.own dv rv)) Z Z Z Z Z Z Z el' (by decide) fun gl=>fq (G:=pt gl bo (evC (x.e.own dv rv))::rZ (x.e.own dv rv).dv (x.e.own dv rv).deps::rD (x.e.own dv rv).rv (x.e.own dv rv).refs::avt gg gq gs gw wq wt m w r V (qe V L w x.e x.frm) C X [Is W]) (ac 13 [0,8,9,4,5,6,1,2,3,12] Z Z) <| fq (a3v hew.l32) ?_
   refine bq Z Z Z (afy (l:= [x.e.own dv rv]) (fun e he=>by rw [List.mem_singleton.1 he];exact ⟨hew.l32,hew.r32⟩) (fun e he=>by rw [List.mem_singleton.1 he];exact ⟨hA.dl,hA.rl⟩) (by simp)) ?_
   rintro _ _ rfl
   refine ad <| ba ?_
   exact i9 (gg,V,qe V L w x.e x.frm,C,X) ⟨rfl,rfl,rfl,rfl,rfl,rfl,rfl,rfl,rfl,trivial⟩ (Ent.refl _) ⟨hG1,hN,hS.add hr20,Nat.le_succ_of_le hX⟩
  refine cm 118 (.bool false) Z (congrArg Value.bool (decide_eq_false k0)) <| al Z <| bd4 <| bgi Z Z <| bd3 ?_
  by_cases k1:x.kind=1
  ·refine cm 154 (.bool true) Z (congrArg Value.bool (decide_eq_true k1)) ?_
   have hG1:=hG.ship (d:=x.d) (id:=x.id) (xs:=x.bs) (r:=r) hA.id
   have hX1:=a1n (L:=L) (d:=x.d) (id:=x.id) (xs:=x.bs) (w:=w) (r:=r) hX
   have hN1:=hN.ship L X x.d x.id x.bs w r
   refine aq Z <| bd4 <| bgi Z Z <| dk 4 Z Z Z Z Z Z (a5o e32) Z <| af Z <| dk 4 Z Z Z Z Z Z (a1d e32 i32) Z <| af Z <| bq Z Z Z ((a04 (gg:=gg) (gq:=gq) (gs:=gs) (n:=m) (w:=w) (r:=r) (V:=V) (L:=L) (X:=X) (C:=C) (d:=x.d) (id:=x.id) (xs:=x.bs) (F:=rL A25 c25 x.bs::pt g22 jf (agC x)::rgt gw wq wt C::rqu wq m V L::wd wt w r X :: [Is W]) hG.ck hG.rise hA.d hA.id (by omega) (a5f (k:=0) Z) hA.bw hA.bl).ent (ac 12 [5,6,7,3,4,8,9,10,11] Z Z)) ?_
   rintro _ _ ⟨rfl,rfl⟩
   (iterate 5 refine af Z ?_)
   refine a8r <| bgi Z Z <| dk 4 Z Z Z Z Z Z (a5o e32) Z <| af Z <| dk 4 Z Z Z Z Z Z (a1d e32 i32) Z <| af Z <| kr 4 Z Z Z Z Z Z (avq e32 i32) Z <| bq Z Z Z ((axm (gw:=gw) (wq:=wq) (wt:=wt) (n:=m) (w:=w) (r:=r) (V:=V) (L:=L) (X:=X) (C:=C) (d:=x.d) (id:=x.id) (xs:=x.bs) (F:=gat gg gq gs (mz L C X x.d x.id x.bs w r)::que gq m V L::sto gs w r (ol L X x.d x.id x.bs w r)::rL A25 c25 x.bs::pt g22 jf (agC x) :: [Is W]) hG.ck hG.rise hG.hl hG.q.many hA.id (by omega) (hbr (k:=5) Z) hA.bw (by omega) (by omega) hG.q).ent (ac 9 [5,6,7,0,1,2,3,4,8] Z Z)) ?_
   rintro _ _ ⟨rfl,rfl⟩
   (iterate 5 refine af Z ?_)
   refine a8r <| bgj Z Z Z <| af Z ?_
   refine a9 180 (.bool true) Z (congrArg Value.bool (by generalize lh L C X x.d x.id x.bs w r=q;cases q <;> rfl)) ?_
   (iterate 5 refine af Z ?_)
   refine a9 185 (.bool true) Z (by simp) ?_
   refine bgi Z Z <| kr 7 Z Z Z Z Z Z (avq e32 i32) Z <| bh Z Z Z ((aqs (l:=x.bs) (A:=A25) (c:=c25) (F:=rgt gw wq wt (mz L C X x.d x.id x.bs w r)::rqu wq m V L::wd wt w r (ol L X x.d x.id x.bs w r)::gat gg gq gs (mz L C X x.d x.id x.bs w r)::que gq m V L::sto gs w r (ol L X x.d x.id x.bs w r)::pt g22 jf (agC x) :: [Is W]) hA.bl (hbr (k:=7) Z)).at (ac 9 [6,0,1,2,3,4,5,7,8] Z Z) (ac 9 [1,2,3,4,5,6,0,7,8] Z Z)) <| bgi Z Z <| bd3 <| ab <| af Z ?_
   refine fq ((rh (j:=x.bs.length) (by omega) 6 Z Z).trans (qq (l:=x.bs) 6 Z Z (by simp [u8s]) Z)) ?_
   refine bq Z Z Z ((aqr (by omega)).ent (ac 9 [6,3,4,5,0,1,2,8] Z Z)) ?_
   rintro _ _ ⟨l2,rfl⟩
   refine ad <| ba ?_
   exact i9 (gg,V,L,mz L C X x.d x.id x.bs w r,ol L X x.d x.id x.bs w r) ⟨rfl,rfl,rfl,rfl,rfl,rfl,rfl,rfl,rfl,trivial⟩ (ac 8 [1,2,3,4,5,6,7] Z Z) ⟨hG1,hN1,hS,hX1⟩
  refine cm 154 (.bool false) Z (congrArg Value.bool (decide_eq_false k1)) <| al Z <| bd4 <| bgi Z Z <| bd3 ?_
  by_cases k2:x.kind=2
  ·refine cm 193 (.bool true) Z (congrArg Value.bool (decide_eq_true k2)) ?_
   have hG1:=hG.dlvG.1
   have hN1:NE (pw V L C).2.2.2:=NE.dlv _ hN
   have hS1:xq (pw V L C).2.2.1:=xq.dlv _ hS
   refine aq Z <| bd4 <| af Z <| bq Z Z Z ((am0 (gg:=gg) (gq:=gq) (gs:=gs) (n:=m) (V:=V) (L:=L) (C:=C)).ent (ac 12 [5,6,7,8,9,10,11] Z Z)) ?_
   rintro _ _ ⟨A1,c1,D1,hD1,rfl,rfl⟩
   have hDo:=a8o hG hD1
   refine af Z <| a8r <| bgi Z Z <| bq Z Z Z ((ao6 (gw:=gw) (wq:=wq) (wt:=wt) (n:=m) (V:=V) (L:=L) (C:=C) hG.nd hG.hl).ent (ac 9 [5,6,0,1,2,3,4,7,8] Z Z)) ?_
   rintro _ _ ⟨A2,c2,D2,hD2,rfl,rfl⟩
   refine bh Z Z Z (agf (l:=D1) (m:=D2) (hD1.trans hD2.symm) (atg (v:= .slice A1 D1.length c1) (l:=D1) (k:=4) (j:=5) Z Z) (atg (v:= .slice A2 D2.length c2) (l:=D2) (k:=0) (j:=1) Z Z) (fun e he=>⟨(hDo e he).1,(hDo e he).2.1,(hDo e he).2.2.1⟩)) <| af Z <| bd3 <| ab <| af Z ?_
   have hDl:D1.length≤100000:=by rw [adb hD1];exact hG.dlvG.2.2.1
   refine bq Z Z Z ((afy (v:= .slice A1 D1.length c1) (l:=D1) (fun e he=>⟨(hDo e he).1,(hDo e he).2.1⟩) (fun e he=>⟨(hDo e he).2.2.2,(hDo e he).2.2.1⟩) (by omega)).ent (ac 11 [4,5,6,7,8,2,3,9,10] Z Z)) ?_
   rintro _ _ rfl
   refine ad <| ba ?_
   exact i9 (gg,(pw V L C).2.1,(pw V L C).2.2.1,(pw V L C).2.2.2,X) ⟨rfl,rfl,rfl,rfl,rfl,rfl,rfl,rfl,rfl,trivial⟩ (ac 7 [0,1,2,3,4,5,6] Z Z) ⟨hG1,hN1,hS1,Nat.le_succ_of_le hX⟩
  refine cm 193 (.bool false) Z (congrArg Value.bool (decide_eq_false k2)) <| al Z <| bd4 <| bgi Z Z <| bd3 ?_
  by_cases k3:x.kind=3
  rotate_left
  ·refine cm 203 (.bool false) Z (congrArg Value.bool (decide_eq_false k3)) <| al Z <| ao <| ba ?_
   exact i9 (gg,V,L,C,X) ⟨rfl,rfl,rfl,rfl,rfl,rfl,rfl,rfl,rfl,trivial⟩ (ac 12 [5,6,7,8,9,10,11] Z Z) ⟨hG,hN,hS,Nat.le_succ_of_le hX⟩
  refine cm 203 (.bool true) Z (congrArg Value.bool (decide_eq_true k3)) <| aq Z <| bd4 <| af Z <| bq Z Z Z ((avm (gg:=gg) (gq:=gq) (gs:=gs) (n:=m) (V:=V) (L:=L) (C:=C) hG.ck).ent (ac 12 [5,6,7,8,9,10,11] Z Z)) ?_
  rintro _ _ ⟨A7,c7,T,hT,rfl,rfl⟩
  obtain ⟨t32,tlen⟩:=ars hG.ck hT
  have tl:∀ e∈T,fw e.ids∧e.ids.length≤1000000:=fun e he=>by
   refine ⟨t32 e he,?_⟩
   have h7:(e.d,e.ids)∈je L C:=by rw [← hT];exact List.mem_map.2 ⟨e,he,rfl⟩
   obtain ⟨y,_,h8⟩:=List.mem_map.1 h7
   have h9:cfm (dotW y) C=e.ids:=congrArg Prod.snd h8
   rw [← h9];exact (hG.ck _).2
  refine af Z <| a8r <| bgj Z Z Z <| bq Z Z Z ((a8n (gq:=gq) (gs:=gs) (n:=m) (w:=w) (r:=r) (V:=V) (L:=L) (X:=X) (C:=C) (A:=A7) (c:=c7) hG hN (by omega) hT).ent (ac 9 [0,1,3,4,5,6,7,8] Z Z)) ?_
  rintro _ _ ⟨g2,rfl,rfl⟩
  (iterate 5 refine af Z ?_)
  refine a8r <| af Z ?_
  refine bq Z Z Z ((aa2 (A:=A7) (c:=c7) (T:=T) tl (by have:=hG.q.many;omega)).ent (ac 9 [1,2,0,3,4,5,6,7,8] Z Z)) ?_
  rintro _ _ rfl
  refine a8r ?_
  (iterate 7 refine af Z ?_)
  refine a8r <| af Z <| bd3 <| aq Z <| ab <| bgi Z Z <| ad <| ba ?_
  exact i9 (g2,V,L,je L C,X) ⟨rfl,rfl,rfl,rfl,rfl,rfl,rfl,rfl,rfl,trivial⟩ (((ac 4 [3,0,1,2] Z Z).trans (a1f fun d=>(zx hG d).symm)).trans (ac 4 [1,2,3,0] Z Z)) ⟨hG.state,hN.state L,hS,Nat.le_succ_of_le hX⟩
 clear hN hS hX hG
 rintro ⟨gg,V,L,C,X⟩ ⟨hG,hN,hS,hX⟩
 dsimp only at hG hN hS hX ⊢
 have hck:=hG.ck
 have hwl:(ir L C).length≤60000000:=by have:=xq.wants hS.2 C;have:=hS.1;omega
 have hrl:(gz V L C).length≤1000000:=by
  have h3:=List.length_filter_le (pg L C) (gn V L)
  have h4:(gn V L).length≤L.length:=by rw [gn,List.length_map];exact List.length_filter_le _ _
  have:=hS.1
  show (List.filter _ _).length≤_
  omega
 refine bd4 <| af Z <| bq Z Z Z (ao0 (gg:=gg) (gq:=gq) (gs:=gs) (n:=m) (V:=V) (L:=L) (C:=C) hck hwl) ?_
 rintro _ _ ⟨A3,c3,rfl,rfl⟩
 refine af Z <| bq Z Z Z ((aoz (gg:=gg) (gq:=gq) (gs:=gs) (n:=m) (V:=V) (L:=L) (C:=C)).ent (ac 8 [1,2,0,3,4,5,6,7] Z Z)) ?_
 rintro _ _ ⟨A4,c4,rfl,rfl⟩
 refine af Z <| bq Z Z Z ((avm (gg:=gg) (gq:=gq) (gs:=gs) (n:=m) (V:=V) (L:=L) (C:=C) hck).ent (ac 9 [1,2,0,3,4,5,6,7,8] Z Z)) ?_
 rintro _ _ ⟨A5,c5,T,hT,rfl,rfl⟩
 obtain ⟨t32,tlen⟩:=ars hck hT
 have tl:∀ e∈T,fw e.ids∧e.ids.length≤1000000:=fun e he=>by
  refine ⟨t32 e he,?_⟩
  have h7:(e.d,e.ids)∈je L C:=by rw [← hT];exact List.mem_map.2 ⟨e,he,rfl⟩
  obtain ⟨y,_,h8⟩:=List.mem_map.1 h7
  have h9:cfm (dotW y) C=e.ids:=congrArg Prod.snd h8
  rw [← h9];exact (hck _).2
 refine bgj Z Z Z <| bd3 <| ae <| ae <| abh (ac 11 [8,0,1,2,3,4,5,6,7,9,10] Z Z) <| ayw ?_
 rintro ⟨v,lq,M⟩ ⟨hqq,hM⟩
 dsimp only at hqq hM
 refine abh (G:=stW wq v lq V M (rCn A5 c5 T.length T::all (pF T)::gat gg gq gs C::que gq m V L::rO A4 c4 (gz V L C).length (gz V L C)::rWt A3 c3 (ir L C).length (ir L C)::sto gs w r X::rgt gw wq wt C::wd wt w r X :: [Is W])) (Ent.refl _) <| bt (fun w H=>(H.oat (k:=1) Z).form) ?_
 rintro ⟨Av,cv,rfl,_,_,_⟩
 refine b7 flo (pt wq io [.slice Av V.length cv,lq] :: [Is W]) (by decide +kernel) (ac 14 [0,13] Z Z) ?_
 (iterate 5 refine ay Z Zl ?_)
 refine dz Z Z Z Z ((at2 (gw:=gw) (wq:=wq) (wt:=wt) (n:=m) (V:=V) (L:=L) (C:=C) (v:= .slice Av V.length cv) (lq:=lq) (M:=M) hqq hM hck hwl).ent (ac 14 [11,0,1,2,3,4,5,6,7,8,9,10,12,13] Z Z)) ?_
 rintro _ _ ⟨A6,c6,rfl,rfl⟩
 refine ⟨ac 15 [2,14] Z rfl,(cz Z Z Z Z (ah9 (l:=ir L C) (fun w H=>(H.oat (k:=11) Z).sl) (fun w H=>(H.oat (k:=0) Z).sl) (a1e hG.q C) (by omega)) (ac 15 [2,14] Z Z) ?_)⟩
 (iterate 5 refine ay Z Zl ?_)
 refine dz Z Z Z Z ((alc (gw:=gw) (wq:=wq) (wt:=wt) (n:=m) (V:=V) (L:=L) (C:=C) (v:= .slice Av V.length cv) (lq:=lq) (M:=M) hqq hM).ent (ac 15 [1,2,3,4,5,6,7,8,9,10,12,13,14] Z Z)) ?_
 rintro _ _ ⟨A7,c7,rfl,rfl⟩
 refine ⟨ac 14 [2,13] Z rfl,(cz Z Z Z Z (akk (l:=gz V L C) (fun w H=>(H.oat (k:=10) Z).sl) (fun w H=>(H.oat (k:=0) Z).sl) hrl) (ac 14 [2,13] Z Z) ?_)⟩
 (iterate 5 refine ay Z Zl ?_)
 refine dz Z Z Z Z ((at4 (gw:=gw) (wq:=wq) (wt:=wt) (n:=m) (V:=V) (L:=L) (C:=C) (v:= .slice Av V.length cv) (lq:=lq) (M:=M) hqq hM hck hN).ent (ac 14 [1,2,3,4,5,6,7,8,9,10,11,12,13] Z Z)) ?_
 rintro _ _ ⟨A8,c8,U,hU,rfl,rfl⟩
 refine ⟨ac 15 [3,14] Z rfl,?_⟩
 refine cz Z Z Z Z (aij (T:=T) (U:=U) (hT.trans hU.symm) (a08 (k:=7) (j:=8) Z Z) (a08 (k:=0) (j:=1) Z Z) t32 (by have:=hS.1;omega)) (ac 15 [3,14] Z Z) ?_
 refine ay Z Zl <| ay Z Zl <| ay Z Zl <| ay Z Zl <| dz Z Z Z Z ((af8 (gq:=gq) (n:=m) (V:=V) (L:=L)).ent (ac 15 [10,2,3,4,5,6,7,8,9,11,12,13,14] Z Z)) ?_
 rintro v255 _ rfl
 refine ⟨ac 14 [3,13] Z rfl,(ay Z Zl <| ay Z Zl <| ay Z Zl <| de 0 Z Z Z Z <| cz Z Z Z Z (aki (xs:=V) (ys:=V) (vlZ (k:=0) Z) (vlZ (k:=4) Z)) (ac 14 [3,13] Z Z) <| b4 260 (.bool true) Z (congrArg Value.bool (decide_eq_true Z)) <| ay Z Zl <| ay Z Zl <| ay Z Zl <| ay Z Zl <| dz Z Z Z Z ((bd1 (gs:=gs) (w:=w) (r:=r) (X:=X) (by omega)).ent (ac 14 [11,1,2,3,4,5,6,7,8,9,10,12,13] Z Z)) ?_)⟩
 rintro _ _ ⟨A9,c9,M1,rfl,s1,p1,hXo,rfl⟩
 refine ⟨ac 14 [4,13] Z rfl,(ay Z Zl <| dz Z Z Z Z ((a8i (wt:=wt) (w:=w) (r:=r) (X:=X) (by omega)).ent (ac 14 [12,0,1,2,3,4,5,6,7,8,9,10,11,13] Z Z)) ?_)⟩
 rintro _ _ ⟨B9,d9,M2,rfl,s2,p2,rfl⟩
 refine ⟨ac 15 [6,14] Z rfl,?_⟩
 obtain rfl:M1=M2:=a1j (fun e he=>il (hXo e he)) s1 p1 s2 p2
 have hM1:fw M1:=fun a ha=>by
  obtain ⟨e,he,h9⟩:=List.mem_map.1 (p1.subset ha)
  rw [← h9];exact (hXo e he).1
 have hM1l:M1.length≤1000000:=by rw [p1.length_eq,List.length_map];omega
 refine cz Z Z Z Z (amn (l:=M1) (fun w H=>(H.oat (k:=2) Z).sl) (fun w H=>(H.oat (k:=0) Z).sl) hM1 hM1l) (ac 15 [6,14] Z Z) <| ay Z Zl <| ay Z Zl <| az <| aa <| al Z <| ao <| aa <| bd4 <| af Z <| bq Z Z Z ((atj (v:= .slice A4 (gz V L C).length c4) (l:=gz V L C) hrl).ent (ac 15 [13,1,3,4,5,6,7,8,9,10,11,12,14] Z Z)) ?_
 rintro _ _ rfl
 refine bd3 <| ab <| af Z ?_
 refine bq Z Z Z ((aa2 (A:=A5) (c:=c5) (T:=T) tl (by have:=hS.1;omega)).ent (ac 12 [8,9,0,1,2,3,4,5,6,7,10,11] Z Z)) ?_
 rintro _ _ rfl
 refine ad <| ba <| aa <| ab <| af Z <| b5 Z (by (unfold I64;omega)) <| af Z <| ad <| bj (i+1,gg,V,L,C,X) ⟨rfl,rfl,rfl,rfl,rfl,rfl,rfl,rfl,trivial⟩ (((ac 10 [4,5,6,7,8,2,1,3,0,9] Z Z).trans (akw hqq hM)).trans (ac 6 [1,2,3,4,0,5] Z Z)) ⟨h1,hG,hN,hS,hX⟩ ?_
 show l.length - (i+1)<l.length - i
 omega
end Go.Proofs.YtdmfcnjgdicncaaGreat
