/- Queues, part fifteen: what fits. Conditions: not too many. -/
import Derived.Test.YtbpdffopjkhelaaGreatX5
import Derived.LaidEqlPtr
import Derived.Test.YtbpdffopjkhelaaGreatX4
import Derived.Test.YtbpdffopjkhelaaGreatX3
set_option maxRecDepth 20000
set_option maxHeartbeats 8000000
namespace Go.Proofs.YtbpdffopjkhelaaGreat
open Go.Eng Go.RowKit Go.WideMaps Go.Heap

def qb (n:Nat) (e:Ev) (src:Int):Bool:=decide (1≤src∧src≤n∧1≤e.r∧e.r≤n∧1≤e.n∧e.n≤1048576∧e.deps.length=n∧tf e.deps∧e.deps.getD (e.r - 1).toNat 0=e.n - 1)
section
variable {b:World} {F:List SP} {gq gm:Nat} {v h:Value} {V:List Int} {R H:List Wn}
theorem Y7 {e:Ev} {src:Int} (he:∀ w,Sat b (stH gq gm v V h R H F) w→VL (Value.int .i64) w e.dv e.deps) (hd:e.deps.length≤1000000) :
  SC Tryz.prog iN [pp gq,evV e,ii src] b (stH gq gm v V h R H F) (fun u F'=>u = .bool (qb V.length e src)∧F'=stH gq gm v V h R H F):=by
 refine aw Tryz.func117 Z Z Z <| bu (fun w H=>(H.oat (k:=1) Z).form) ?_;rintro ⟨A1,c1,rfl,_,_,_⟩;refine bu (fun w H=>(he w H).form) ?_;rintro ⟨A2,c2,hv2,k1,k2,k3,k4⟩;refine akw <| bx Z Z Z Z Z fun g4=>ae Z <| akv <| ad <| cn flo (pt g4 ba (evC e)::pt gq ml [.slice A1 V.length c1,h,.map (some gm)]::F) (by decide +kernel) (af 6 [0,1] Z) <| ay Z Zl <| ay Z Zl <| ay Z Zl <| cl 1 Z Z Z Z <| ay Z Zl <| ay Z Zl <| cl 0 Z Z Z Z <| jt Z Z Z Z Z Z (af 6 [0,1] Z) fun g8=>ay Z Zl <| nQ 0 Z Z Z Z Z Z Z Z Z Z Z Z (af 7 [1,2] Z) ?_
 skip
 refine aq <| ab <| ad <| cn flo (pt g8 t_api_Dot [ii e.r,ii e.n]::pt g4 ba (evC e)::stH gq gm (.slice A1 V.length c1) V h R H F) (by decide +kernel) ax ?_;have no:∀ (hf:¬ (1≤src∧src≤V.length∧1≤e.r∧e.r≤V.length∧1≤e.n∧e.n≤1048576∧e.deps.length=V.length∧tf e.deps∧e.deps.getD (e.r - 1).toNat 0=e.n - 1)),false=qb V.length e src:=fun hf=>(ans hf).symm
 refine ay Z Zl <| ay Z Zl <| ay Z Zl ?_;by_cases d0:1≤src;rotate_left
 ·refine cz 18 (.bool false) Z (by simp;omega) ?_
  (iterate 29 refine ay Z Zl ?_)
  refine ay Z (.inr Z) ?_
  (iterate 15 refine ay Z Zl ?_)
  refine aq <| ab <| ai <| ar Z Z (af 7 [2,3,4,5,6] Z) ?_;exact ⟨am7 Value.bool (no fun hh=>by omega),rfl⟩
 refine cz 18 (.bool true) Z (by simp;omega) ?_
 (iterate 5 refine ay Z Zl ?_)
 by_cases d1:src≤(V.length:Int);rotate_left
 ·refine cz 23 (.bool false) Z (by simp;omega) ?_
  (iterate 24 refine ay Z Zl ?_)
  refine ay Z (.inr Z) ?_
  (iterate 15 refine ay Z Zl ?_)
  refine aq <| ab <| ai <| ar Z Z (af 7 [2,3,4,5,6] Z) ?_;exact ⟨am7 Value.bool (no fun hh=>by omega),rfl⟩
 refine cz 23 (.bool true) Z (by simp;omega) ?_;refine ay Z Zl <| cl 0 Z Z Z Z <| ay Z Zl <| ay Z Zl <| ay Z Zl ?_;by_cases d2:1≤e.r;rotate_left
 ·refine cz 28 (.bool false) Z (by simp;omega) ?_
  (iterate 19 refine ay Z Zl ?_)
  refine ay Z (.inr Z) ?_
  (iterate 15 refine ay Z Zl ?_)
  refine aq <| ab <| ai <| ar Z Z (af 7 [2,3,4,5,6] Z) ?_;exact ⟨am7 Value.bool (no fun hh=>by omega),rfl⟩
 refine cz 28 (.bool true) Z (by simp;omega) ?_;refine ay Z Zl <| cl 0 Z Z Z Z <| ay Z Zl <| ay Z Zl <| ay Z Zl <| ay Z Zl ?_;by_cases d3:e.r≤(V.length:Int);rotate_left
 ·refine cz 34 (.bool false) Z (by simp;omega) ?_
  (iterate 13 refine ay Z Zl ?_)
  refine ay Z (.inr Z) ?_
  (iterate 15 refine ay Z Zl ?_)
  refine aq <| ab <| ai <| ar Z Z (af 7 [2,3,4,5,6] Z) ?_;exact ⟨am7 Value.bool (no fun hh=>by omega),rfl⟩
 refine cz 34 (.bool true) Z (by simp;omega) ?_;refine ay Z Zl <| cl 0 Z Z Z Z <| ay Z Zl <| ay Z Zl <| ay Z Zl ?_;by_cases d4:1≤e.n;rotate_left
 ·refine cz 39 (.bool false) Z (by simp;omega) ?_
  (iterate 8 refine ay Z Zl ?_)
  refine ay Z (.inr Z) ?_
  (iterate 15 refine ay Z Zl ?_)
  refine aq <| ab <| ai <| ar Z Z (af 7 [2,3,4,5,6] Z) ?_;exact ⟨am7 Value.bool (no fun hh=>by omega),rfl⟩
 refine cz 39 (.bool true) Z (by simp;omega) ?_;refine ay Z Zl <| cl 0 Z Z Z Z <| ay Z Zl <| ay Z Zl <| ay Z Zl ?_;by_cases d5:e.n≤1048576;rotate_left
 ·refine cz 44 (.bool false) Z (by simp;omega) ?_;refine ay Z Zl <| ay Z Zl <| ay Z Zl <| ay Z (.inr Z) ?_
  (iterate 15 refine ay Z Zl ?_)
  refine aq <| ab <| ai <| ar Z Z (af 7 [2,3,4,5,6] Z) ?_;exact ⟨am7 Value.bool (no fun hh=>by omega),rfl⟩
 refine cz 44 (.bool true) Z (by simp;omega) ?_;refine ay Z Zl <| cl 1 Z Z Z Z <| ay Z Zl <| dh Z Z Z Z (Lc (up he (af 7 [2,3,4,5,6] Z)) hd) ax <| ay Z Zl <| ay Z Zl ?_;by_cases d6:e.deps.length=V.length∧tf e.deps;rotate_left
 ·refine cz 50 (.bool false) Z (am7 Value.bool (by simpa using d6)) ?_
  (iterate 13 refine ay Z Zl ?_)
  refine aq <| ab <| ai <| ar Z Z (af 7 [2,3,4,5,6] Z) ?_;exact ⟨am7 Value.bool (no fun hh=>d6 ⟨hh.2.2.2.2.2.2.1,hh.2.2.2.2.2.2.2.1⟩),rfl⟩
 refine cz 50 (.bool true) Z (am7 Value.bool (by simpa using d6)) ?_;refine ay Z Zl <| cl 1 Z Z Z Z <| ay Z Zl <| cl 0 Z Z Z Z <| cq Z Z ?_;obtain ⟨d7,d8⟩:=d6;obtain ⟨k,hk⟩:∃ k:Nat,e.r - 1=(k:Int):=⟨(e.r - 1).toNat,by omega⟩;have hkl:k<e.deps.length:=by omega
 obtain ⟨bk,off,rfl⟩:=k4 (by omega);have hg:e.deps.getD (e.r - 1).toNat 0=e.deps[k]:=by rw [show (e.r - 1).toNat=k by omega,ano,am8 hkl];rfl
 have he2:∀ w,Sat b (pt g8 t_api_Dot [ii e.r,ii e.n]::pt g4 ba (evC e)::stH gq gm (.slice A1 V.length c1) V h R H F) w→VL (Value.int .i64) w (.slice (some ⟨bk,off,none⟩) e.deps.length c2) e.deps:=fun w H=>hv2▸up he (af 7 [2,3,4,5,6] Z) w H
 refine cz 52 (.slice (some ⟨bk,off,none⟩) e.deps.length c2) Z hv2 <| cq Z Z ?_;refine ij Z (fun w H=>br Z Z Z (by rw [bq,show (e.r - 1).toNat=k by omega,aop];exact VL.at (he2 w H) k hkl)) Z Z ?_;refine ay Z Zl <| cl 0 Z Z Z Z <| cq Z Z <| ay Z Zl <| ay Z Zl <| ay Z Zl <| aq <| ab <| ai <| ar Z Z (af 7 [2,3,4,5,6] Z) <| ⟨am7 Value.bool ?_,rfl⟩;rw [qb,hg];simp [d0,d1,d2,d3,d4,d5,d7,d8]
end

theorem Y8 (x:Wn) {H:List Wn} (h:md (x.e.r,x.e.n) (wM H)=none):sy (x.e.r,x.e.n) (pp x.g) (wM H)=wM (H ++ [x]):=by
 induction H with
 | nil => rfl
 | cons e l ih =>
  simp only [wM,md] at h
  split at h
  ·cases h
  ·rename_i hne
   simp only [wM,sy,aoe,if_neg hne,ih h]
theorem Uc {H:List Wn} {x:Wn}:(wF (H ++ [x])).Perm (wP x++wF H):=by
 have:=tO (l1:=H) (l2:= []) (e:=x);rwa [anv] at this
section
variable {b:World} {F:List SP} {gq gm:Nat} {v h:Value} {V:List Int} {R H:List Wn}
theorem Y9 {e:Ev} {s:Int} (h32:∀ e∈H,e.e.id.length=32) (hs:∀ e∈R,e∈H) (hn:R.length≤100000) (he32:e.id.length=32) (hdot:lm (e.r,e.n)) (hno:md (e.r,e.n) (wM H)=none)
  (ha:∀ w,Sat b F w→VL (Value.int .i64) w e.dv e.deps) (hr:∀ w,Sat b F w→SL w 32 e.rv e.refs.length (ig e.refs)) (hd:e.deps.length≤1000000) (hl:e.refs.length≤1000000) :
  SC Tryz.prog iO [pp gq,.agg ⟨wsC e s⟩] b (stH gq gm v V h R H F)
   (fun _ F'=>∃ g dv rv h',F'=stH gq gm v V h' (upG (R.length+1) (R ++ [⟨g,e.own dv rv,s⟩]) R.length) (H ++ [⟨g,e.own dv rv,s⟩]) F):=by
 refine aw Tryz.func118 Z Z Z <| akw <| bx Z Z Z Z Z fun g3=>aan ?_
 refine du 0 Z Z Z Z Z Z (dj (by rw [ls he32];rfl)) Z ?_;refine bf Z Z Z (Wr he32 (up ha (af 6 [] Z)) (up hr (af 6 [] Z)) hd hl) ?_;rintro _ _ ⟨dv,rv,rfl,rfl⟩;refine b9 (fun w H=>(H.oat (k:=0) Z).form) ?_;rintro ⟨A1,c1,rfl,_,_,_⟩;refine b9 (fun w H=>(H.oat (k:=1) Z).form) ?_;rintro ⟨A2,c2,rfl,_,_,_⟩;have h33:(e.own (.slice A1 e.deps.length c1) (.slice A2 e.refs.length c2)).id.length=32:=he32;have hone:=mH (e:=e.own (.slice A1 e.deps.length c1) (.slice A2 e.refs.length c2)) (s:=s) Z Z;refine fh 2 Z Z Z Z Z Z Z (ls h33) hone (by rw [ls h33,ls he32]) ?_;refine akv <| ad <| cn flo (pt g3 gu (wsC (e.own (.slice A1 e.deps.length c1) (.slice A2 e.refs.length c2)) s)::pt gq ml [v,h,.map (some gm)]::F) (by decide +kernel) (af 8 [2,3] Z) <| ay Z Zl <| ay Z Zl <| ay Z Zl <| cl 1 Z Z Z Z <| ay Z Zl <| ay Z Zl <| cl 0 Z Z Z Z <| rU 6 td hdot Z Z Z Z Z Z Z Z Z (af 8 [2,3] Z) <| aq ?_;have hput:=Y8 ⟨g3,e.own (.slice A1 e.deps.length c1) (.slice A2 e.refs.length c2),s⟩ (H:=H) hno;rw [show sy (e.r,e.n) (pp g3) (wM H)=wM (H ++ [⟨g3,e.own (.slice A1 e.deps.length c1) (.slice A2 e.refs.length c2),s⟩]) from hput];refine ab <| aa <| b9 (fun w H=>(H.oat (k:=5) Z).form) ?_;rintro ⟨A3,c3,rfl,_,_,_⟩;refine eo (af 8 [2,0,1,7,3,5,4,6] Z) <| eo (ny (B:=wP ⟨g3,e.own (.slice A1 e.deps.length c1) (.slice A2 e.refs.length c2),s⟩) (C:=wF H) (A:=wF (H ++ [⟨g3,e.own (.slice A1 e.deps.length c1) (.slice A2 e.refs.length c2),s⟩])) Uc) <| eo (af 5 [1,2,0,3,4] Z) ?_
 (iterate 5 refine ae Z ?_)
 have hpush:=Ou (b:=b) (F:=rZ v V::mpH gm (H ++ [(⟨g3,e.own (.slice A1 e.deps.length c1) (.slice A2 e.refs.length c2),s⟩:Wn)])::F) (A:=A3) (c:=c3) (n:=R.length) (gh:=gq) (t0:=ml) (off:=1) (cs:=fun u=> [v,u,.map (some gm)]) (x:=(⟨g3,e.own (.slice A1 e.deps.length c1) (.slice A2 e.refs.length c2),s⟩:Wn)) (l:=R) (H:=H ++ [(⟨g3,e.own (.slice A1 e.deps.length c1) (.slice A2 e.refs.length c2),s⟩:Wn)]) (hcq _ _) (fun a ha=>by
  rcases anr.1 ha with h | h
  ·exact h32 a h
  ·rw [anc.1 h];exact he32) (fun a ha=>an5 _ (hs a ha)) (aoj _ (anc.2 Z)) Z (by omega)
 refine bf Z Z Z (hpush) ?_;rintro _ _ ⟨A',c',rfl⟩;refine ac <| jb Z .nil (af 5 [0,3,1,4,2] Z) <| ⟨g3,.slice A1 e.deps.length c1,.slice A2 e.refs.length c2,.slice A' (R.length+1) c',?_⟩;have hlen:(upG (R.length+1) (R ++ [⟨g3,e.own (.slice A1 e.deps.length c1) (.slice A2 e.refs.length c2),s⟩]) R.length).length=R.length+1:=by rw [zW];simp
 simp only [stH,rP,hlen]
end
open Go

theorem Za {P:Program} {E:List (Nat × Value)} {ty:TypeId} {w:World} {t t' te:TypeId} {j:TypeInfo} {x y:Operand} {g1 g2 t1 t2:Nat} {c1 c2:List Value} (hp:P.underlying t=some (.pointer te)) (hte:P.info? te=some j) (hsz:j.size≠0)
  (hx:ev E x=some (pp g1)) (hy:ev E y=some (pp g2)) (b1:Blk w g1 t1 c1) (b2:Blk w g2 t2 c2):Ex P E (.binOp .eql t x y t') ty w (.bool (decide (g1=g2))) w:=by
 intro ρ o hρ ho _;have hr:(binOp .eql t (pp g1) (pp g2)).run P w = .ok (.bool (decide (g1=g2))) w:=by
  by_cases e:g1=g2
  ·subst e;rw [Go.run_eql_ptr_same w _ hp hte];simp
  ·rw [Go.run_eql_ptr_other (a:=⟨g1,0,none⟩) (b:=⟨g2,0,none⟩) w hp hte hsz (fun h=>e (am7 Addr.block h)) b1 b2];simp [e]
 have hg:(eqGuard .eql t x y (pp g1) (pp g2)).run P w = .ok () w:=by
  simp [eqGuard]
 simp [execOp,hg,ho,hρ _ _ hx,hρ _ _ hy,hr,Result.andThen]

theorem ajl:∃ j,Tryz.prog.info? gu=some j∧j.size≠0:=by
 have h:(Tryz.prog.info? gu).isSome=true:=by kernel_rfl
 refine ⟨(Tryz.prog.info? gu).get h,by simp,?_⟩;have h2:(((Tryz.prog.info? gu).get h).size == 0)=false:=by kernel_rfl
 simpa using h2
section
variable {b:World} {F:List SP} {h:Value} {R H:List Wn} {e:Wn}
theorem Ud {kk:Nat} (hF:nth F kk=some (all (wF H))) (hs:∀ e∈R,e∈H) (ha:∀ w,Sat b F w→SL w 1 h R.length (qa R)) (hn:R.length≤100000) (he:e∈R) :
  SC Tryz.prog og [h,pp e.g] b F (fun u F'=>(∃ i:Nat,u=ii i∧∃ hi:i<R.length,R[i].g=e.g)∧F'=F):=by
 refine aw Tryz.func132 Z Z Z <| bu (fun w H=>cp (ha w H)) ?_;rintro ⟨A,c,rfl,h1,h2,h3,h4,_⟩;refine akw <| ae Z <| akv <| ad <| akw <| am5 Z Z Z <| akv <| am <| dt (S:=Nat) (fun i=> [(0,.slice A R.length c),(1,pp e.g),(7,ii R.length),(8,ii i)]) (fun _=>F) (fun i=>i≤R.length∧∀ k (hk:k<R.length),k<i→R[k].g≠e.g) (fun i=>R.length - i) 0 ax ⟨anq _,fun k _ h=>absurd h (aqi k)⟩ ?_;rintro i ⟨hi,hk⟩;refine akw <| ae Z <| akv <| ad ?_;refine de Z (fun h=> ?_) (fun h=> ?_)
 ·have h':i<R.length:=by omega
  obtain ⟨bk,off,rfl⟩:=h4 (by omega);have ci:∀ w,Sat b F w→w.cell? ⟨bk,off+i,none⟩=some (pp (R[i].g)):=fun w H=>by
   obtain ⟨A',c',hv,hl,_,_,_,hc⟩:=ha w H;cases hv;obtain ⟨b',o',hA,_,hcc⟩:=hc (by omega);cases hA;rw [hcc i (by simp;exact h')];simp [qa,h']
  refine ak <| ab <| ad <| am <| akw <| am4 Z Z <| aan <| am5 Z Z Z <| az Z ?_;refine fc Z (fun w H=>br Z Z Z (by rw [bq,am6,aop];exact ci w H)) Z ?_
  skip
  obtain ⟨j,hj1,hj2⟩:=ajl;refine fc Z (fun w H=>Za (by kernel_rfl) hj1 hj2 Z Z (tP hF (hs _ he) w H) (tP hF (hs _ (ana h')) w H)) Z ?_;by_cases hg:e.g=R[i].g
  ·refine se 16 Z hg <| akv <| ao Z <| akw <| am4 Z Z <| akv <| ai <| al <| ag <| cd <| al <| ag <| ar Z Z ax ?_;exact ⟨⟨i,rfl,h',hg.symm⟩,rfl⟩
  ·refine sq 16 Z hg <| akv <| aj Z <| ak <| bh <| ab <| aa <| az Z <| ae Z <| ac <| cw (i+1) ax ⟨h',fun k hkk hlt=> ?_⟩;by_cases e1:k=i
   ·subst e1;exact fun hc=>hg hc.symm
   ·exact hk k hkk (by omega)
 ·exfalso;obtain ⟨k,hkk,rfl⟩:=ao0.1 he;exact hk k hkk (by omega) Z
end

section
variable {b:World} {F:List SP} {p:Value} (hn:∀ A:List SP,SC Tryz.prog xe [p] b (A++F) (fun v F'=>v = .bool true∧F'=A++F))
include hn
abbrev ev0:Ev:=⟨0,0,.slice none 0 0,[],0,⟨#[]⟩,⟨#[]⟩,List.replicate 32 0,.slice none 0 0,[]⟩
end

abbrev dotW (w:Wn):Int × Int:=(w.e.r,w.e.n)
theorem Ps {a c:Wn} (h1:leG a c) (h2:leG c a):dotW a=dotW c:=by
 unfold leG at h1 h2;rw [Dh,ltE,fN,aoy] at h1 h2;have h3:a.e.r=c.e.r:=by omega
 have h4:a.e.n=c.e.n:=by omega
 rw [dotW,dotW,h3,h4]
theorem uF {L:List Wn} (hnd:(L.map dotW).Nodup) {a c:Wn} (ha:a∈L) (hc:c∈L) (h:dotW a=dotW c):a=c:=by
 induction L with
 | nil => simp at ha
 | cons x L ih =>
  simp only [ant,ao6] at hnd;rcases anj.1 ha with rfl | ha' <;> rcases anj.1 hc with rfl | hc'
  ·rfl
  ·exact absurd (h▸anb.2 ⟨c,hc',rfl⟩) hnd.1
  ·exact absurd (h▸anb.2 ⟨a,ha',rfl⟩) hnd.1
  ·exact ih hnd.2 ha' hc'
theorem D7 {O L:List Wn} (h1:O.Pairwise leG) (h2:L.Pairwise leG) (hp:O.Perm L) (hnd:(L.map dotW).Nodup):O=L :=
 List.Perm.eq_of_pairwise (fun _ _ ha hc h3 h4=>uF hnd (hp.subset ha) hc (Ps h3 h4)) h1 h2 hp
def jr (d:Int × Int) (L:List Wn):Option Wn:=L.find? fun w=>decide (dotW w=d)
theorem gv {d:Int × Int} {L:List Wn} {x:Wn} (h:jr d L=some x):x∈L∧dotW x=d :=
 ⟨List.mem_of_find?_eq_some h,by simpa using List.find?_some h⟩
theorem kJ {d:Int × Int} {L:List Wn} (h:jr d L=none):∀ x∈L,dotW x≠d:=by
 intro x hx;have:=List.find?_eq_none.1 h x hx;simpa using this
theorem bP {d:Int × Int} {L:List Wn} {x:Wn} (hnd:(L.map dotW).Nodup) (hx:x∈L) (hd:dotW x=d):jr d L=some x:=by
 cases h:jr d L with
 | none => exact absurd hd (kJ h x hx)
 | some y => rw [uF hnd (gv h).1 hx ((gv h).2.trans hd.symm)]
def An (x:Wn):List Wn→List Wn
 | [] => [x]
 | y :: l => if HOrd.lt y x = true then y :: An x l else x :: y :: l
theorem x9 (x:Wn) (l:List Wn):(An x l).Perm (x::l):=by
 induction l with
 | nil => exact .refl _
 | cons y l ih =>
  simp only [An]
  split
  ·exact (List.Perm.cons y ih).trans (.swap _ _ _)
  ·exact .refl _
theorem D8 {x:Wn} {l:List Wn} (h:l.Pairwise leG):(An x l).Pairwise leG:=by
 induction l with
 | nil => exact ao7 _ _
 | cons y l ih =>
  simp only [An]
  split
  ·rename_i hlt
   refine aod.2 ⟨fun z hz=> ?_,ih (aod.1 h).2⟩;rcases anj.1 ((x9 x l).subset hz) with rfl | hz
   ·exact tM hlt
   ·exact (aod.1 h).1 z hz
  ·rename_i hlt
   refine aod.2 ⟨fun z hz=> ?_,h⟩;rcases anj.1 hz with rfl | hz
   ·exact hlt
   ·exact qi hlt ((aod.1 h).1 z hz)
def pd (d:Int × Int) (s:Int) (w:Wn):Wn:=if dotW w=d then ⟨w.g,w.e,s⟩ else w
theorem y8 (d:Int × Int) (s:Int) (w:Wn):(pd d s w).e=w.e:=by unfold pd;split <;> rfl
theorem Pt (d:Int × Int) (s:Int) (w:Wn):(pd d s w).g=w.g:=by unfold pd;split <;> rfl
theorem Jj (d:Int × Int) (s:Int) (a c:Wn):HOrd.lt (pd d s a) (pd d s c)=HOrd.lt a c:=by rw [Dh,Dh,y8,y8]
theorem Jk (d:Int × Int) (s:Int) (w:Wn):nW (pd d s w)=pd d s (nW w):=by
 unfold pd;by_cases h:dotW w=d
 ·rw [if_pos h,if_pos (show dotW (nW w)=d from h)];rfl
 ·rw [if_neg h,if_neg (show dotW (nW w)≠d from h)]
theorem wK {L:List Wn} {d:Int × Int} {s:Int} (h:L.Pairwise leG):(L.map (pd d s)).Pairwise leG:=by
 rw [ap7];refine h.imp fun {a c} hac=> ?_;unfold leG at hac ⊢;rw [Jj];exact hac
theorem L3 (L:List Wn) (d:Int × Int) (s:Int):(L.map (pd d s)).map dotW=L.map dotW:=by
 rw [apk];refine aqj fun w _=> ?_;show ((pd d s w).e.r,(pd d s w).e.n)=_;rw [y8]
def bQ (d:Int × Int) (L:List Wn):List Wn:=L.filter fun w=>decide (dotW w≠d)
theorem bR {d:Int × Int} {L:List Wn} {w:Wn}:w∈bQ d L↔w∈L∧dotW w≠d:=by simp [bQ]
structure QI (n:Nat) (V:List Int) (L:List Wn):Prop where
 n1:1≤n
 n2:n≤16
 len:V.length=n
 num:tf V
 nd:(L.map dotW).Nodup
 fit:∀ w∈L,qb n w.e w.src=true
 new:∀ w∈L,fq V w.e.r w.e.n=false
 ew:∀ w∈L,EW w.e
 rf:∀ w∈L,w.e.refs.length≤1000000
 many:L.length≤100000
 nrm:∀ w∈L,nW w=w
 so:L.Pairwise leG
theorem QI.i32 {n:Nat} {V:List Int} {L:List Wn} (hq:QI n V L):∀ w∈L,w.e.id.length=32:=fun w hw=>(hq.ew w hw).l32
structure HI (L R H:List Wn):Prop where
 perm:R.Perm H
 hp:hpG R.length R
 pm:L.Perm (H.map nW)
section
variable {n:Nat} {V:List Int} {L R H:List Wn} (hq:QI n V L) (hi:HI L R H)
include hi in
theorem HI.mem {w:Wn} (h:w∈H):nW w∈L:=hi.pm.symm.subset (anb.2 ⟨w,h,rfl⟩)
include hi in
theorem HI.sub:∀ e∈R,e∈H:=fun _ h=>hi.perm.subset h
include hq hi in
theorem HI.h32:∀ e∈H,e.e.id.length=32:=fun e h=>hq.i32 (nW e) (hi.mem h)
include hq hi in
theorem HI.nd:(H.map dotW).Nodup:=by
 have h1:=hi.pm.map dotW;rw [apk] at h1;exact h1.nodup_iff.1 hq.nd
include hi in
theorem HI.len:R.length=L.length∧H.length=L.length:=by
 have h1:=hi.perm.length_eq;have h2:=hi.pm.length_eq;rw [anf] at h2;omega
theorem Ue {d:Int × Int}:(∀ w∈H,dotW w≠d)→md d (wM H)=none:=by
 induction H with
 | nil => intro _; rfl
 | cons e l ih =>
  intro h;simp only [wM,md];rw [if_neg (h e anl)];exact ih fun w hw=>h w (ank _ hw)
theorem Ap {d:Int × Int}:(∃ w∈H,dotW w=d)→∃ w∈H,dotW w=d∧md d (wM H)=some (pp w.g):=by
 induction H with
 | nil => rintro ⟨w, hw, _⟩; simp at hw
 | cons e l ih =>
  rintro ⟨w,hw,hd⟩;simp only [wM,md];by_cases he:dotW e=d
  ·exact ⟨e,anl,he,if_pos he⟩
  ·rw [if_neg he];have:∃ w∈l,dotW w=d:=by
    rcases anj.1 hw with rfl | hw
    ·exact absurd hd he
    ·exact ⟨w,hw,hd⟩
   obtain ⟨w',h1,h2,h3⟩:=ih this;exact ⟨w',ank _ h1,h2,h3⟩
include hi in
theorem HI.miss {d:Int × Int} (h:jr d L=none):md d (wM H)=none :=
 Ue fun w hw=>kJ h (nW w) (hi.mem hw)
include hq hi in
theorem HI.hit {d:Int × Int} {x:Wn} (h:jr d L=some x):∃ w∈H,dotW w=d∧nW w=x∧md d (wM H)=some (pp w.g):=by
 obtain ⟨h1,h2⟩:=gv h;obtain ⟨w0,hw0,he0⟩:=anb.1 (hi.pm.subset h1);obtain ⟨w,hw,hd,hg⟩:=Ap (H:=H) (d:=d) ⟨w0,hw0,by rw [← h2,← he0];rfl⟩;exact ⟨w,hw,hd,uF hq.nd (hi.mem hw) h1 (show dotW w=_ by rw [hd,h2]),hg⟩
include hq in
theorem QI.dotOk {w:Wn} (h:w∈L):Go.Proofs.YtbpdffopjkhelaaGreat.lm (dotW w):=by
 have:=of_decide_eq_true (hq.fit w h);have h2:=hq.n2;exact ⟨(jA _).2 (by show I64 w.e.r;unfold I64;omega),(jA _).2 (by show I64 w.e.n;unfold I64;omega)⟩
end

def que (gq n:Nat) (V:List Int) (L:List Wn):SP :=
 exP (S:=Nat × Value × Value × List Wn × List Wn) (fun s=>QI n V L∧HI L s.2.2.2.1 s.2.2.2.2) fun s=>stH gq s.1 s.2.1 V s.2.2.1 s.2.2.2.1 s.2.2.2.2 []
def D9 (V:List Int) (L:List Wn) (e:Ev) (s:Int):Bool:=qb V.length e s && !fq V e.r e.n&&(jr (e.r,e.n) L).isNone&&decide (L.length<64)
def wL (V:List Int) (L:List Wn) (e:Ev) (s:Int):Int:=if qb V.length e s=false then 2 else if fq V e.r e.n=true∨(jr (e.r,e.n) L).isSome then 0 else if 64≤L.length then 10 else 0
def dB (V:List Int) (L:List Wn) (e:Ev) (s:Int):List Wn :=
 if qb V.length e s=false∨fq V e.r e.n=true then L else if (jr (e.r,e.n) L).isSome then L.map (pd (e.r,e.n) s) else if 64≤L.length then L else An (nW ⟨0,e,s⟩) L
section
variable {n:Nat} {V:List Int} {L R H:List Wn}
theorem Uf {f:Wn→Wn} (hf:∀ a c,HOrd.lt (f a) (f c)=HOrd.lt a c) (h:hpG R.length R):hpG (R.map f).length (R.map f):=by
 intro i h0 hi;rw [anf] at hi;have:=h i h0 hi;have hx:∀ k,k<R.length→(R.map f).getD k HOrd.d=f (R.getD k HOrd.d):=fun k hk=>by
  rw [ano,ano,apj,am8 hk];rfl
 unfold leG atG at this ⊢;rw [hx _ hi,hx _ (by omega),hf];exact this
theorem QI.setS (hq:QI n V L) {e:Ev} {s:Int} (hf:qb n e s=true):QI n V (L.map (pd (e.r,e.n) s)) where
 n1:=hq.n1
 n2:=hq.n2
 len:=hq.len
 num:=hq.num
 nd:=by rw [L3];exact hq.nd
 fit:=fun w hw=>by
  obtain ⟨x,hx,rfl⟩:=anb.1 hw;have h1:=hq.fit x hx;unfold YtbpdffopjkhelaaGreat.pd
  split
  ·have h2:=of_decide_eq_true h1;have h3:=of_decide_eq_true hf;exact ani ⟨h3.1,h3.2.1,h2.2.2⟩
  ·exact h1
 new:=fun w hw=>by
  obtain ⟨x,hx,rfl⟩:=anb.1 hw;rw [y8];exact hq.new x hx
 ew:=fun w hw=>by
  obtain ⟨x,hx,rfl⟩:=anb.1 hw;rw [y8];exact hq.ew x hx
 rf:=fun w hw=>by
  obtain ⟨x,hx,rfl⟩:=anb.1 hw;rw [y8];exact hq.rf x hx
 many:=by rw [anf];exact hq.many
 nrm:=fun w hw=>by
  obtain ⟨x,hx,rfl⟩:=anb.1 hw;rw [Jk,hq.nrm x hx]
 so:=wK hq.so
theorem HI.setS (hi:HI L R H) (d:Int × Int) (s:Int):HI (L.map (pd d s)) (R.map (pd d s)) (H.map (pd d s)) where
 perm:=hi.perm.map _
 hp:=Uf (Jj d s) hi.hp
 pm:=by
  rw [apk];have h1:=hi.pm.map (YtbpdffopjkhelaaGreat.pd d s);rw [apk] at h1;refine h1.trans <| .of_eq <| aqj fun w _=> ?_;exact (Jk d s w).symm
theorem QI.ins (hq:QI n V L) {e:Ev} {s:Int} (hf:qb n e s=true) (hh:fq V e.r e.n=false) (hn:jr (e.r,e.n) L=none) (hew:EW e) (hl:e.refs.length≤1000000) (hm:L.length<64):QI n V (An (nW ⟨0,e,s⟩) L):=by
 have hp:=x9 (nW ⟨0,e,s⟩) L;have hall:∀ {p:Wn→Prop},(∀ w∈L,p w)→p (nW ⟨0,e,s⟩)→∀ w∈An (nW ⟨0,e,s⟩) L,p w:=fun h1 h2 w hw=>by
  rcases anj.1 (hp.subset hw) with rfl | h
  ·exact h2
  ·exact h1 w h
 exact {
  n1:=hq.n1
  n2:=hq.n2
  len:=hq.len
  num:=hq.num
  nd:=(hp.map dotW).nodup_iff.2 (by
   rw [ant,ao6];refine ⟨fun hc=> ?_,hq.nd⟩;obtain ⟨x,hx,he⟩:=anb.1 hc;exact kJ hn x hx he)
  fit:=hall hq.fit hf
  new:=hall hq.new hh
  ew:=hall hq.ew (hew.own nS nS)
  rf:=hall hq.rf hl
  many:=by rw [hp.length_eq,anp];omega
  nrm:=hall hq.nrm Z
  so:=D8 hq.so}
theorem Ug (d:Int × Int) (s:Int):wM (H.map (pd d s))=wM H:=by
 induction H with
 | nil => rfl
 | cons e l ih => simp only [ant, wM, ih, y8, Pt]
theorem L4 (d:Int × Int) (s:Int):qa (R.map (pd d s))=qa R:=by
 rw [qa,apk];refine aqj fun w _=> ?_;simp [Pt]
theorem mS {d:Int × Int} {s:Int} (h:∀ w∈H,dotW w≠d):H.map (pd d s)=H:=by
 have:H.map (pd d s)=H.map id:=aqj fun w hw=>if_neg (h w hw)
 rw [this,List.map_id]
end
section
variable {b:World} {F:List SP} {gq n:Nat} {V:List Int} {L:List Wn} {e:Ev} {s:Int}
theorem ajm (he:∀ w,Sat b F w→VL (Value.int .i64) w e.dv e.deps) (hr:∀ w,Sat b F w→SL w 32 e.rv e.refs.length (ig e.refs)) (hd:e.deps.length≤1000000) (hl:e.refs.length≤1000000) (hew:EW e) :
  SC Tryz.prog jV [pp gq,evV e,ii s] b (que gq n V L::F) (fun v F'=>v = .tuple ⟨[.bool (D9 V L e s),ii (wL V L e s)]⟩∧F'=que gq n V (dB V L e s)::F):=by
 refine SC.opn ?_;rintro ⟨gm,v,h,R,H⟩ ⟨hq,hi⟩;dsimp only at hi;show SC _ _ _ _ (stH gq gm v V h R H F) _;refine SC.out (R:=fun u F'=>u = .tuple ⟨[.bool (D9 V L e s),ii (wL V L e s)]⟩∧∃ h' R' H',F'=stH gq gm v V h' R' H' F∧QI n V (dB V L e s)∧HI (dB V L e s) R' H') ?_ (by
  rintro u _ ⟨h1,h',R',H',rfl,hq',hi'⟩;exact ⟨_,j6 (G:=fun s=>stH gq s.1 s.2.1 V s.2.2.1 s.2.2.2.1 s.2.2.2.2 []) (gm,v,h',R',H') ⟨hq',hi'⟩,h1,rfl⟩)
 have hlen:=hi.len;have hmany:=hq.many;have hVl:=hq.len;have h32:=hew.l32;refine aw Tryz.func43 Z Z Z <| akw <| bx Z Z Z Z Z fun g4=>am4 Z Z <| akv <| ad <| am <| akw <| ae Z <| bg Z Z Z ((tI (F:=pt g4 ba (evC e)::F)).at (af 6 [1,2,3,4,5,0] Z) (af 6 [5,0,1,2,3,4] Z)) <| ae Z <| akv <| aj Z <| akw <| ae Z ?_
 refine du 0 Z Z Z Z Z Z (dj (by rw [di h32];rfl)) Z ?_;refine ae Z <| bg Z Z Z ((Y7 (F:=pt g4 ba (evC e)::F) (up he (af 6 [] Z)) hd).at (af 6 [1,2,3,4,5,0] Z) (af 6 [5,0,1,2,3,4] Z)) ?_;by_cases hf:qb V.length e s=true;rotate_left
 ·have hf':qb V.length e s=false:=by simpa using hf
  refine bm 17 (.bool false) Z (am7 Value.bool hf') <| am4 Z Z <| akv <| ao Z <| akw <| am4 Z Z <| akv <| ai <| al <| ag <| fz Z Z Z (af 6 [1,2,3,4,5] Z) ?_;refine ⟨?_,h,R,H,rfl,?_⟩
  ·rw [D9,wL,hf'];rfl
  ·rw [dB,if_pos (.inl hf')];exact ⟨hq,hi⟩
 refine bm 17 (.bool true) Z (am7 Value.bool hf) <| am4 Z Z <| akv <| aj Z <| ad <| cn flo _ (by decide +kernel) ax <| ay Z Zl <| ay Z Zl <| ay Z Zl <| cl 1 Z Z Z Z <| ay Z Zl <| cl 0 Z Z Z Z <| dh Z Z Z Z (SC.ofExt fun w H=>xh (vlZ (k:=2) Z w H)) ax <| ay Z Zl <| aq ?_;cases hh:fq V e.r e.n with
 | true =>
  refine ab <| ao Z <| akw <| am4 Z Z <| akv <| ai <| al <| ag <| fz Z Z Z (af 6 [1,2,3,4,5] Z) ?_;refine ⟨?_,h,R,H,rfl,?_⟩
  ·rw [D9,wL,hf,hh];rfl
  ·rw [dB,if_pos (.inr hh)];exact ⟨hq,hi⟩
 | false =>
 have hfn:qb n e s=true:=hVl▸hf;have hdok:lm (e.r,e.n):=by
  have h1:=of_decide_eq_true hf;have h2:=hq.n2;exact ⟨(jA _).2 (by show I64 e.r;unfold I64;omega),(jA _).2 (by show I64 e.n;unfold I64;omega)⟩
 refine ab <| aj Z <| ak <| bh <| ab <| ad <| ad <| cn flo _ (by decide +kernel) ax <| ay Z Zl <| ay Z Zl <| ay Z Zl <| cl 1 Z Z Z Z <| ay Z Zl <| cl 0 Z Z Z Z ?_;cases hfw:jr (e.r,e.n) L with
 | some x =>
  obtain ⟨w,hw,hwd,hwx,hwg⟩:=hi.hit hq hfw;refine lH 4 td hdok hwg Z Z Z Z Z Z Z Z Z ?_
  (iterate 5 refine ay Z Zl ?_)
  refine aq <| ab <| akw <| ae Z <| akv <| ao Z <| akw <| am5 Z Z Z <| ae Z ?_;obtain ⟨l1,l2,hH⟩:=ao3 hw;have hnd:=hi.nd hq;have hw32:=hi.h32 hq w hw;refine eo (af 6 [5,0,1,2,3,4] Z) ?_;refine eo (qd (A:=wF H) (B:=wP w) (C:=wF (l1++l2)) (by rw [hH];exact tO)) ?_;refine wX 0 Z Z Z Z Z Z Z Z (Ld hw32) Z ?_;have hH':H.map (pd (e.r,e.n) s)=l1++(⟨w.g,w.e,s⟩:Wn)::l2:=by
   rw [hH];rw [hH] at hnd;have hp:(l1++w::l2).Perm (w::(l1++l2)):=an2;have hnd':=(hp.map dotW).nodup_iff.1 hnd;simp only [ant,ao6] at hnd';have h1:∀ y∈l1++l2,dotW y≠(e.r,e.n):=fun y hy hc=>hnd'.1 (anb.2 ⟨y,hy,hc.trans hwd.symm⟩)
   rw [anu,ant,mS fun y hy=>h1 y (an5 _ hy),mS fun y hy=>h1 y (aoj _ hy)];congr 2;exact if_pos hwd
  refine eo (ny (A:=wF (H.map (pd (e.r,e.n) s))) (B:=wP ⟨w.g,w.e,s⟩) (C:=wF (l1++l2)) (by rw [hH'];exact tO)) ?_;refine aan <| am4 Z Z <| akv <| ai <| ag <| fz Z Z Z (af 6 [2,3,4,5,0] Z) ?_;refine ⟨?_,h,R.map (pd (e.r,e.n) s),H.map (pd (e.r,e.n) s),?_,?_,?_⟩
  ·rw [D9,wL,hf,hh,hfw];rfl
  ·simp only [stH,rP,mpH,Ug,L4,anf]
  ·rw [dB,hfw,if_neg (by simp [hf,hh])];exact hq.setS hfn
  ·rw [dB,hfw,if_neg (by simp [hf,hh])];exact hi.setS _ _
 | none =>
  refine lG 4 td hdok (hi.miss hfw) Z Z Z Z Z Z Z Z Z ?_
  (iterate 5 refine ay Z Zl ?_)
  refine aq <| ab <| ad <| bu (fun w H=>(H.oat (k:=3) Z).form) ?_;rintro ⟨A1,c1,rfl,_,_,_⟩;refine aa <| ae Z <| akv <| aj Z <| ak <| ab <| ad <| akw <| am5 Z Z Z <| bt 1 Z Z Z <| am4 Z Z <| akv ?_;by_cases hm:64≤L.length
  ·refine dL 47 Z <| ao Z <| akw <| am4 Z Z <| akv <| ai <| ag <| fz Z Z Z (af 6 [1,2,3,4,5] Z) ?_;refine ⟨?_,.slice A1 R.length c1,R,H,rfl,?_⟩
   ·have hm':¬ L.length<64:=by omega
    rw [D9,wL,hf,hh,hfw];simp [hm,hm',pW]
   ·rw [dB,hfw,if_neg (by simp [hf,hh]),if_neg (by simp),if_pos hm];exact ⟨hq,hi⟩
  ·refine oe 47 Z <| aj Z <| ak <| ab <| akw <| ae Z ?_;refine du 0 Z Z Z Z Z Z (dj (by rw [di h32];rfl)) Z ?_;refine ae Z <| Sk Z Z Z ⟨di h32,rfl,trivial⟩ ?_;have hx:=Y9 (b:=b) (F:=pt g4 ba (evC e)::F) (gq:=gq) (gm:=gm) (v:=v) (V:=V) (h:= .slice A1 R.length c1) (R:=R) (H:=H) (e:=e) (s:=s) (hi.h32 hq) hi.sub (by omega) h32 hdok (hi.miss hfw) (up he (af 1 [] Z)) (up hr (af 1 [] Z)) hd hl;refine bf Z Z Z (hx.ent (af 6 [1,2,3,4,5,0] Z)) ?_;rintro _ _ ⟨g,dv,rv,h',rfl⟩;refine aan <| am4 Z Z <| akv <| ai <| fz Z Z Z (af 6 [0,1,2,3,4] Z) ?_;have hc:dB V L e s=An (nW ⟨0,e,s⟩) L:=by rw [dB,hfw,if_neg (by simp [hf,hh]),if_neg (by simp),if_neg hm]
   refine ⟨?_,h',_,_,rfl,?_,?_⟩
   ·have hm':L.length<64:=by omega
    rw [D9,wL,hf,hh,hfw];simp [hm,hm',pW]
   ·rw [hc];exact hq.ins hfn hh hfw hew hl (by omega)
   ·rw [hc];have hup:(upG (R.length+1) (R ++ [(⟨g,e.own dv rv,s⟩:Wn)]) R.length).Perm (R ++ [⟨g,e.own dv rv,s⟩]):=Dg _ _ _ (by simp);refine ⟨hup.trans (hi.perm.append_right _),?_,?_⟩
    ·rw [zW,am9,aqa];exact Om hi.hp
    ·rw [anu];refine (x9 _ _).trans ?_;exact (List.Perm.cons _ hi.pm).trans (ao9 (l₁:= [nW ⟨g,e.own dv rv,s⟩]))
end

theorem HI.ord {n:Nat} {V:List Int} {L R H O:List Wn} (hq:QI n V L) (hi:HI L R H) (h1:O.Perm R) (h2:O.Pairwise leG):O.map nW=L:=by
 refine D7 ?_ hq.so (((h1.trans hi.perm).map nW).trans hi.pm.symm) hq.nd;rw [ap7];exact h2
theorem Pv (V:List Int) (O:List Wn):ip V (O.map nW)=ip V O:=by
 unfold ip;rw [List.filter_map,apk]
 rfl
section
variable {b:World} {F:List SP} {gq n:Nat} {V:List Int} {L R H:List Wn} {w:Wn}
theorem Zb {k:Nat} (hk:nth F k=some (all (wF H))) (he:w∈H):∀ W,Sat b F W→∀ j,j<(waC w).length→W.cell? ⟨w.g,0+j,none⟩=(waC w)[j]?:=fun W hS j hj=>by
 rw [aob];exact (tP hk he W hS).cell j
theorem mT:SC Tryz.prog uf [pp gq] b (que gq n V L::F) (fun u F'=>F'=rZ u V::que gq n V L::F):=by
 refine SC.opn ?_;rintro ⟨gm,v,h,R,H⟩ ⟨hq,hi⟩;dsimp only at hi;show SC _ _ _ _ (stH gq gm v V h R H F) _;refine (Ow (by have:=hq.len;have:=hq.n2;omega)).out ?_;rintro u _ rfl;exact ⟨_,j4 (j6 (G:=fun s=>stH gq s.1 s.2.1 V s.2.2.1 s.2.2.2.1 s.2.2.2.2 []) (gm,v,h,R,H) ⟨hq,hi⟩),rfl⟩
theorem Zc:SC Tryz.prog xb [pp gq] b (que gq n V L::F) (fun u F'=>∃ A c,u = .slice A (ip V L).length c∧F'=rO A c (ip V L).length (ip V L)::que gq n V L::F):=by
 refine SC.opn ?_;rintro ⟨gm,v,h,R,H⟩ ⟨hq,hi⟩;dsimp only at hi;show SC _ _ _ _ (stH gq gm v V h R H F) _;have hl:=HI.len hi;have hm:=hq.many;refine (Yw (HI.h32 hq hi) (HI.sub hi) hi.hp (by omega)).out ?_;rintro u _ ⟨O,A,c,h1,h2,h3,rfl⟩;have e:ip V O=ip V L:=by rw [← Pv,HI.ord hq hi h1 h2]
 rw [e] at h3 ⊢;exact ⟨_,j4 (j6 (G:=fun s=>stH gq s.1 s.2.1 V s.2.2.1 s.2.2.2.1 s.2.2.2.2 []) (gm,v,h,R,H) ⟨hq,hi⟩),A,c,h3,rfl⟩
theorem Uh {gm:Nat} {v h:Value} {d:Int × Int} (hd:lm d) (hq:QI n V L) (hi:HI L R H):SC Tryz.prog pz [pp gq,y3 d] b (stH gq gm v V h R H F) (fun u F' =>
  (jr d L=none∧u = .tuple ⟨[.agg ⟨wsC ev0 0⟩,.bool false]⟩∧F'=stH gq gm v V h R H F)∨∃ x dv rv,jr d L=some x∧u = .tuple ⟨[.agg ⟨wsC (x.e.own dv rv) x.src⟩,.bool true]⟩∧F'=rZ dv x.e.deps::rD rv x.e.refs::stH gq gm v V h R H F):=by
 refine aw Tryz.func33 Z Z Z <| akw <| bx Z Z Z Z Z fun g3=> ?_
 skip
 refine db Z Z Z Z Z fun g4=>eo (af 7 [2,3,4,5,6,0,1] Z) <| ae Z <| akv <| ad <| akw <| ae Z <| bg Z Z Z (tI) <| akv <| aj Z <| ak <| ab <| ad <| cn flo _ (by decide +kernel) ax <| ay Z Zl <| ay Z Zl <| ay Z Zl <| cl 0 Z Z Z Z <| cl 6 Z Z Z Z ?_
 cases hfw:jr d L with
 | none =>
  refine lG 3 td hd (hi.miss hfw) Z Z Z Z Z Z Z Z Z ?_
  (iterate 5 refine ay Z Zl ?_)
  refine aq <| ab <| ad <| akw <| am4 Z Z <| akv <| ao Z <| akw <| ae Z <| eu 5 Z Z Z Z <| ae Z <| akv <| ai <| ag <| fw Z (.agg 5 Z Z Z Z Z (.tmp Z .nil)) (af 7 [0,1,2,3,4] Z) ?_;exact .inl ⟨rfl,rfl,rfl⟩
 | some x =>
  obtain ⟨w,hw,hwd,hwx,hwg⟩:=hi.hit hq hfw;have hx32:=HI.h32 hq hi w hw;have hxd:w.e.deps.length≤1000000:=by
   have:=of_decide_eq_true (hq.fit _ (hi.mem hw));have h7:w.e.deps.length=n:=this.2.2.2.2.2.2.1;have:=hq.n2;omega
  have hxl:w.e.refs.length≤1000000:=hq.rf (nW w) (hi.mem hw);refine lH 3 td hd hwg Z Z Z Z Z Z Z Z Z ?_
  (iterate 5 refine ay Z Zl ?_)
  refine aq <| ab <| ad <| akw <| am4 Z Z <| akv <| aj Z <| ak <| ab <| akw <| am4 Z Z <| fc Z (fun w' H=>cg (cs:=waC w) Z Z Z (ls hx32) (Zb (k:=4) Z hw w' H)) Z <| bf Z Z Z (Wr hx32 (Di (k:=4) Z hw) (Ws (k:=4) Z hw) hxd hxl) ?_;rintro _ _ ⟨dv,rv,rfl,rfl⟩;refine b9 (fun w H=>(H.oat (k:=0) Z).form) ?_;rintro ⟨A2,c2,rfl,_,_,_⟩;refine b9 (fun w H=>(H.oat (k:=1) Z).form) ?_;rintro ⟨A3,c3,rfl,_,_,_⟩;have hy32:(w.e.own (.slice A2 w.e.deps.length c2) (.slice A3 w.e.refs.length c3)).id.length=32:=hx32;have hyone:∀ u∈wsC (w.e.own (.slice A2 w.e.deps.length c2) (.slice A3 w.e.refs.length c3)) w.src,u.oneCell'=true:=mH Z Z;refine fh 7 Z Z Z Z Z Z Z (ls hy32) hyone (by rw [ls hy32];rfl) ?_;refine ae Z <| akv <| ai ?_;refine fw Z (.whole 7 Z Z Z Z (by rw [ls hy32];rfl) (.tmp Z .nil)) (af 9 [0,1,2,3,4,5,6] Z) ?_;subst hwx;exact .inr ⟨_,_,_,rfl,rfl,rfl⟩
theorem Ui {d:Int × Int} (hd:lm d):SC Tryz.prog pz [pp gq,y3 d] b (que gq n V L::F) (fun u F' =>
  (jr d L=none∧u = .tuple ⟨[.agg ⟨wsC ev0 0⟩,.bool false]⟩∧F'=que gq n V L::F)∨∃ x dv rv,jr d L=some x∧u = .tuple ⟨[.agg ⟨wsC (x.e.own dv rv) x.src⟩,.bool true]⟩∧F'=rZ dv x.e.deps::rD rv x.e.refs::que gq n V L::F):=by
 refine SC.opn ?_;rintro ⟨gm,v,h,R,H⟩ ⟨hq,hi⟩;dsimp only at hi;refine (Uh hd hq hi).out ?_;have hp:=j6 (G:=fun s:Nat × Value × Value × List Wn × List Wn=>stH gq s.1 s.2.1 V s.2.2.1 s.2.2.2.1 s.2.2.2.2 []) (p:=fun s=>QI n V L∧HI L s.2.2.2.1 s.2.2.2.2) (F:=F) (gm,v,h,R,H) ⟨hq,hi⟩;rintro u _ (⟨h1,h2,rfl⟩ | ⟨x,dv,rv,h1,h2,rfl⟩)
 ·exact ⟨_,hp,.inl ⟨h1,h2,rfl⟩⟩
 ·exact ⟨_,j4 (j4 hp),.inr ⟨x,dv,rv,h1,h2,rfl⟩⟩
end

def lg (V:List Int) (r m:Int):List Int:=V.set (r - 1).toNat m
theorem Hk {V:List Int} {r m:Int} (h1:1≤r) (h2:r≤V.length) (i:Nat):nn (lg V r m) i=if i=(r - 1).toNat then max m 0 else nn V i:=by
 unfold nn lg;rw [ano,aq8];by_cases h:(r - 1).toNat=i
 ·rw [if_pos h,if_pos h.symm,if_pos (by omega)];rfl
 ·rw [if_neg h,if_neg (fun e=>h e.symm),← ano]
theorem mU {V:List Int} {r m:Int} (h1:1≤r) (h2:r≤V.length) (h3:0≤m) (q:Int):atL (lg V r m) q=if q=r then m else atL V q:=by
 have hl:(lg V r m).length=V.length:=by simp [lg]
 unfold atL;rw [hl];by_cases h:q=r
 ·subst h;rw [if_pos ⟨h1,h2⟩,if_pos rfl,Hk h1 h2,if_pos rfl];omega
 ·rw [if_neg h]
  split
  ·rw [Hk h1 h2,if_neg (by omega)]
  ·rfl
theorem xZ {V:List Int} {r m:Int} (hV:tf V) (h0:V.length≤16) (h1:1≤r) (h2:r≤V.length) (h3:1≤m) (h4:atL V r<m):wc V r m=lg V r m:=by
 have hol:(oK r m).length=r.toNat:=by simp [oK]
 have hw:wc V r m=joinL V (oK r m):=by
  rw [wc,if_neg (by omega)]
 rw [hw];apply aqr
 ·simp only [fM,anf,aq9,lg,app];omega
 ·intro i hi1 hi2;have hiV:i<V.length:=by simpa [lg] using hi2
  have hvi:=hV _ (ana hiV);have e1:(joinL V (oK r m))[i]=max (nn V i) (nn (oK r m) i):=by simp [fM]
  have hv:nn V i=V[i]:=by rw [Wj hiV];omega
  rw [e1,hv];have ha:(lg V r m)[i]=if (r - 1).toNat=i then m else V[i]:=by simp only [lg,List.getElem_set]
  rw [ha];by_cases h:(r - 1).toNat=i
  ·rw [if_pos h];have hat:atL V r=V[i]:=by
    rw [atL,if_pos ⟨h1,h2⟩,h,hv]
   have ho:nn (oK r m) i=m:=by
    unfold nn oK;rw [ano,aq8,if_pos h,if_pos (by rw [apr];omega)];show max m 0=m;omega
   rw [ho];omega
  ·rw [if_neg h];have ho:nn (oK r m) i=0:=by
    unfold nn oK;rw [ano,aq8,if_neg h,List.getElem?_replicate]
    split <;> rfl
   rw [ho];omega
theorem QI.adv {n:Nat} {V:List Int} {L L':List Wn} {r m:Int} (hq:QI n V L) (h1:1≤r) (h2:r≤V.length) (h3:1≤m) (h4:m≤1048576) (hs:L'.Sublist L) (hn:∀ w∈L',w.e.r=r→m<w.e.n):QI n (lg V r m) L' where
 n1:=hq.n1
 n2:=hq.n2
 len:=by simp [lg,hq.len]
 num:=fun x hx=>by
  rcases apd hx with h | rfl
  ·exact hq.num x h
  ·omega
 nd:=(hs.map dotW).nodup hq.nd
 fit:=fun w hw=>hq.fit w (hs.subset hw)
 new:=fun w hw=>by
  have h5:=hq.new w (hs.subset hw);have h6:=of_decide_eq_true (hq.fit w (hs.subset hw));have h7:1≤w.e.r∧1≤w.e.n:=⟨h6.2.2.1,h6.2.2.2.2.1⟩;simp only [fq,ani h7.1,ani h7.2,arj,aqg] at h5 ⊢;rw [mU h1 h2 (by omega)]
  split
  ·rename_i h;have:=hn w hw h;omega
  ·exact h5
 ew:=fun w hw=>hq.ew w (hs.subset hw)
 rf:=fun w hw=>hq.rf w (hs.subset hw)
 many:=aoz hs.length_le hq.many
 nrm:=fun w hw=>hq.nrm w (hs.subset hw)
 so:=hq.so.sublist hs
theorem QI.ripe {n:Nat} {V:List Int} {L:List Wn} {x:Wn} (hq:QI n V L) (hx:x∈L) (hl:lf x.e.deps V=true):1≤x.e.r∧x.e.r≤V.length∧1≤x.e.n∧x.e.n≤1048576∧atL V x.e.r=x.e.n - 1:=by
 have h:=of_decide_eq_true (hq.fit x hx);obtain ⟨_,_,h1,h2,h3,h4,h5,_,h7⟩:=h;have hlen:=hq.len;refine ⟨h1,by omega,h3,h4,?_⟩;have h8:=hq.new x hx;simp only [fq,ani h1,ani h3,arj,aqg] at h8;have h9:=(qx _ _).1 hl (x.e.r - 1).toNat;have h10:nn x.e.deps (x.e.r - 1).toNat=x.e.n - 1:=by
  unfold nn;rw [h7];omega
 rw [atL,if_pos ⟨h1,by omega⟩] at h8 ⊢;omega
theorem QI.del {n:Nat} {V:List Int} {L:List Wn} {x:Wn} (hq:QI n V L) (hx:x∈L) (hl:lf x.e.deps V=true):QI n (lg V x.e.r x.e.n) (bQ (dotW x) L):=by
 obtain ⟨h1,h2,h3,h4,h5⟩:=hq.ripe hx hl;refine hq.adv h1 h2 h3 h4 arg fun w hw hr=> ?_;obtain ⟨hw1,hw2⟩:=bR.1 hw;have h6:=of_decide_eq_true (hq.fit w hw1);have h7:1≤w.e.r∧1≤w.e.n:=⟨h6.2.2.1,h6.2.2.2.2.1⟩;have h8:=hq.new w hw1;simp only [fq,ani h7.1,ani h7.2,arj,aqg] at h8;rw [hr] at h8;have:w.e.n≠x.e.n:=fun hc=>hw2 (by rw [dotW,dotW,hr,hc])
 omega
theorem Uj {d:Int × Int} {a c:List Wn} {x:Wn} (ha:∀ y∈a,dotW y≠d) (hx:dotW x=d):zi d (wM (a++x::c))=wM (a++c):=by
 induction a with
 | nil => simp only [aos, wM, zi]; rw [if_pos hx]
 | cons y a ih =>
  simp only [aoe,wM,zi];rw [if_neg (ha y anl),ih fun z hz=>ha z (ank _ hz)]
theorem ajn {b:World} {F:List SP} {k:Nat} {H l1 l2:List Wn} {w:Wn} (hk:nth F k=some (all (wF H))) (hH:H=l1++w::l2):∀ W,Sat b F W→∀ x∈l1++l2,x.g≠w.g:=fun W hS x hx=>by
 subst hH;obtain ⟨m1,m2,hm⟩:=ao3 hx;obtain ⟨h1,l,hA⟩:=hS.mem.get hk;have hp:(wF (l1++w::l2)).Perm (wP w++(wP x++wF (m1++m2))):=tO.trans (List.Perm.append_left _ (by rw [hm];exact tO));have hS2:Sat b (wP w++(wP x++wF (m1++m2))) W:=⟨hS.os,hS.tape,hS.output,(je hp _ hA).mono l⟩;exact (hS2.ne (i:=0) (j:=3) Z Z (by decide)).symm
def wN (V:List Int) (L:List Wn) (d:Int × Int):Int:=match jr d L with
 | none => 26
 | some x => if lf x.e.deps V then 0 else 25
section
variable {b:World} {F:List SP} {gq n:Nat} {V:List Int} {L R H:List Wn} {d:Int × Int}
theorem Zd {a:List Wn} {k:Nat} (h:hpG k a) (hk:k≤a.length):hpG (a.take k).length (a.take k):=by
 rw [anm,apq hk];exact Dl.2 h
theorem L5 {gm:Nat} {v h:Value} (hd:lm d) (hq:QI n V L) (hi:HI L R H):SC Tryz.prog n4 [pp gq,y3 d] b (stH gq gm v V h R H F) (fun u F' =>
  (wN V L d≠0∧u = .tuple ⟨[evV ev0,ii (wN V L d)]⟩∧F'=stH gq gm v V h R H F) ∨
  ∃ x w v' h' R' H',jr d L=some x∧lf x.e.deps V=true∧nW w=x∧u = .tuple ⟨[evV w.e,ii 0]⟩∧HI (bQ d L) R' H'∧F'=rZ w.e.dv w.e.deps::rD w.e.rv w.e.refs::stH gq gm v' (lg V d.1 d.2) h' R' H' F):=by
 have hl:=hi.len;have hm:=hq.many;refine aw Tryz.func51 Z Z Z <| akw <| bx Z Z Z Z Z fun g3=> ?_
 skip
 refine db Z Z Z Z Z fun g4=>eo (af 7 [2,3,4,5,6,0,1] Z) <| ae Z <| akv <| ad <| akw <| ae Z <| bg Z Z Z (tI) <| akv <| aj Z <| ak <| ab <| ad <| cn flo _ (by decide +kernel) ax <| ay Z Zl <| ay Z Zl <| ay Z Zl <| cl 0 Z Z Z Z <| cl 6 Z Z Z Z ?_
 cases hfw:jr d L with
 | none =>
  refine lG 3 td hd (hi.miss hfw) Z Z Z Z Z Z Z Z Z ?_
  (iterate 5 refine ay Z Zl ?_)
  refine aq <| ab <| ad <| am <| akw <| am5 Z Z Z <| akv <| ao Z <| akw <| ae Z <| eu 5 Z Z Z Z <| ae Z <| akv <| ai <| al <| ag <| fw Z (.agg 5 Z Z Z Z Z (.tmp Z .nil)) (af 7 [0,1,2,3,4] Z) ?_;have hE:wN V L d=26:=by rw [wN,hfw]
  exact .inl ⟨by rw [hE];decide,by rw [hE];rfl,rfl⟩
 | some x =>
  obtain ⟨w,hw,hwd,hwx,hwg⟩:=hi.hit hq hfw;refine lH 3 td hd hwg Z Z Z Z Z Z Z Z Z ?_
  (iterate 5 refine ay Z Zl ?_)
  refine aq <| ab <| ad <| am <| akw <| am5 Z Z Z <| akv <| aj Z <| akw <| am4 Z Z <| bg Z Z Z (Ox hw) ?_;cases hlq:lf w.e.deps V with
  | false =>
   have hE:wN V L d=25:=by
    rw [wN,hfw];show (if lf x.e.deps V=true then _ else _)=_;rw [if_neg];rw [← hwx];show ¬ lf w.e.deps V=true;rw [hlq];decide
   refine am4 Z Z <| akv <| ao Z <| akw <| ae Z <| eu 5 Z Z Z Z <| ae Z <| akv <| ai <| al <| ag <| fw Z (.agg 5 Z Z Z Z Z (.tmp Z .nil)) (af 7 [0,1,2,3,4] Z) ?_;exact .inl ⟨by rw [hE];decide,by rw [hE];rfl,rfl⟩
  | true =>
  have hxL:=(gv hfw).1;have hxl:lf x.e.deps V=true:=by rw [← hwx];exact hlq
  have hw32:=hi.h32 hq w hw;obtain ⟨l1,l2,hH⟩:=ao3 hw;have hnd:=hi.nd hq;have hoff:∀ y∈l1++l2,dotW y≠d:=by
   intro y hy hc;rw [hH] at hnd;have hp:(l1++w::l2).Perm (w::(l1++l2)):=an2;have:=(hp.map dotW).nodup_iff.1 hnd;simp only [ant,ao6] at this;exact this.1 (anb.2 ⟨y,hy,hc.trans hwd.symm⟩)
  have hdm:zi d (wM H)=wM (l1++l2):=by rw [hH];exact Uj (fun y hy=>hoff y (an5 _ hy)) hwd
  refine am4 Z Z <| akv <| aj Z <| ak <| bh <| ab <| ad <| cn flo (pt gq ml [v,h,.map (some gm)]::pt g3 t_api_Dot [ii d.1,ii d.2]::F) (by decide +kernel) (af 7 [0,6] Z) <| ay Z Zl <| ay Z Zl <| ay Z Zl <| cl 0 Z Z Z Z <| cl 1 Z Z Z Z <| Ni 3 td hd Z Z Z Z Z Z Z Z (af 7 [0,6] Z) <| aq <| ab <| ad ?_;rw [hdm];refine bu (fun w H=>ajn (k:=4) Z hH w H) fun hgne=> ?_;refine bu (fun w H=>(H.oat (k:=2) Z).form) ?_;rintro ⟨A1,c1,rfl,_,_,_⟩;have hwR:w∈R:=hi.perm.symm.subset hw;refine jc flo 10 _ [] Z (by decide +kernel) ax ?_
  (iterate 7 refine ay Z Zl ?_)
  refine cl 0 Z Z Z Z <| ay Z Zl <| d9 Z Z Z Z (Ud (H:=H) (R:=R) (e:=w) (kk:=4) Z hi.sub (fun w H=>(H.oat (k:=2) Z).sl) (by omega) hwR) ?_;rintro _ _ ⟨⟨i,rfl,hiR,hig⟩,rfl⟩;refine ⟨Ent.refl _,(aq <| jd Z (dc _) ?_)⟩;obtain ⟨k,hk⟩:∃ k,R.length=k+1:=⟨R.length - 1,by omega⟩;have hRi:R[i]=w:=by
   have hm1:R[i]∈H:=hi.sub _ (ana hiR);rw [hH] at hm1;rcases anr.1 hm1 with h1 | h1
   ·exact absurd hig (hgne _ (an5 _ h1))
   ·rcases anj.1 h1 with h1 | h1
    ·exact h1
    ·exact absurd hig (hgne _ (aoj _ h1))
  have hrem:=Le (b:=b) (F:=rZ v V::mp gm y3 lm (wM (l1++l2))::pt g4 ba (evC ev0)::pt g3 t_api_Dot [ii d.1,ii d.2]::F) (A:=A1) (c:=c1) (n:=k) (gh:=gq) (t0:=ml) (off:=1) (cs:=fun u=> [v,u,.map (some gm)]) (l:=R) (H:=H) (i:=i) (hcq _ _) (hi.h32 hq) hi.sub hk (by omega) (by omega);refine ix (p:=R.length=k+1) (fun _ _=>hk) fun hk'=> ?_;refine M8 (G:=pt gq ml [v,.slice A1 (k+1) c1,.map (some gm)]::rW A1 c1 (k+1) R::all (wF H)::rZ v V::mp gm y3 lm (wM (l1++l2))::pt g4 ba (evC ev0)::pt g3 t_api_Dot [ii d.1,ii d.2]::F) (by rw [← hk'];exact af 7 [0,2,4,1,3,5,6] Z) ?_;refine d9 Z Z Z Z hrem ?_;rintro _ _ ⟨rfl,rfl⟩;refine ⟨dc _,(aq ?_)⟩;have hR'l:((sh R i k).take k).length=k:=by rw [anm,mJ];omega
  have hR'p:((sh R i k).take k ++ [w]).Perm R:=by
   have h1:=kG (m:=sh R i k) (n:=k) (by rw [mJ];exact hk);rw [Td hk (by omega),ano,am8 hiR,aq1,hRi] at h1;rw [← h1];exact Lf hk (by omega)
  have hR'h:hpG ((sh R i k).take k).length ((sh R i k).take k):=by
   have h1:=Tc hk (by omega) (by rw [← hk];exact hi.hp) (i:=i);exact Zd h1 (by rw [mJ];omega)
  generalize hR':(sh R i k).take k=R' at *;refine ab <| ad <| jc flo 9 _ [] Z (by decide +kernel) ax <| ay Z Zl <| ay Z Zl <| ay Z Zl <| ay Z Zl <| cl 0 Z Z Z Z <| cl 6 Z Z Z Z ?_;refine d9 Z Z Z Z (SC.ofMade fun w H=>bJ (vlZ (k:=3) Z w H) (by have:=hq.len;have:=hq.n2;omega)) ?_;rintro v2 _ rfl;refine ⟨af 1 [] rfl,(ix (fun w H=>(H.oat (k:=0) Z).form) ?_)⟩;rintro ⟨A3,c3,rfl,_,_,_⟩;refine ay Z Zl <| ay Z Zl <| aq <| jd Z (dc _) ?_
  skip
  refine aM 1 Z Z Z Z Z Z Z Z Z Z Z (dc _) <| aq <| ab <| akw <| am5 Z Z Z ?_;refine fc Z (fun w' H=>cg (cs:=evC w.e) Z Z Z (di hw32) (fun j hj=>by rw [aob];exact Oq (k:=3) Z hw w' H j hj)) Z ?_;refine b9 (fun w' H=>(Di (k:=3) Z hw w' H).form) ?_;rintro ⟨A5,c5,hdv,_,_,_⟩;refine b9 (fun w' H=>cp (Ws (k:=3) Z hw w' H)) ?_;rintro ⟨A6,c6,hrv,_,_,_⟩;refine fh 6 Z Z Z Z Z Z Z (di hw32) (kp (by rw [hdv];rfl) (by rw [hrv];rfl)) (by rw [di hw32];rfl) ?_;refine ae Z <| akv <| ai ?_;obtain ⟨h1,h2,h3,h4,h5⟩:=hq.ripe hxL hxl;have hdx:d=(x.e.r,x.e.n):=(gv hfw).2.symm;have hwl:wc V d.1 d.2=lg V d.1 d.2:=by
   rw [hdx];exact xZ hq.num (by have:=hq.len;have:=hq.n2;omega) h1 h2 h3 (by show atL V x.e.r<x.e.n;omega)
  rw [hwl];refine fw Z (.whole 6 Z Z Z Z (by rw [di hw32];rfl) (.tmp Z .nil)) ((af 8 [3,0,1,2,5] Z).trans ((qd (A:=wF H) (B:=wP w) (C:=wF (l1++l2)) (by rw [hH];exact tO)).trans (af 8 [1,2,5,4,6,7,3] Z))) ?_;refine .inr ⟨x,w,.slice A3 (lg V d.1 d.2).length c3,.slice A1 k c1,R',l1++l2,rfl,hxl,hwx,rfl,⟨?_,hR'h,?_⟩,by simp only [stH,rP,hR'l]⟩
  ·have h6:(R' ++ [w]).Perm (l1++w::l2):=hR'p.trans (hH▸hi.perm);have h7:(w::R').Perm (w::(l1++l2)):=ao9.trans (h6.trans an2);exact h7.cons_inv
  ·have h6:L.Perm (nW w::(l1++l2).map nW):=by
    have:=hi.pm;rw [hH] at this;exact this.trans ((an2 (a:=w)).map nW)
   have h7:=h6.filter fun y=>decide (dotW y≠d)
   have e1:(nW w::(l1++l2).map nW).filter (fun y=>decide (dotW y≠d))=(l1++l2).map nW:=by
    rw [List.filter_cons_of_neg (by simp [show dotW (nW w)=d from hwd])];rw [aom];intro y hy;obtain ⟨z,hz,rfl⟩:=anb.1 hy;exact ani (show dotW (nW z)≠d from hoff z hz)
   rw [e1] at h7;exact h7
theorem L6 (hd:lm d):SC Tryz.prog n4 [pp gq,y3 d] b (que gq n V L::F) (fun u F' =>
  (wN V L d≠0∧u = .tuple ⟨[evV ev0,ii (wN V L d)]⟩∧F'=que gq n V L::F) ∨
  ∃ x w,jr d L=some x∧lf x.e.deps V=true∧nW w=x∧u = .tuple ⟨[evV w.e,ii 0]⟩∧F'=rZ w.e.dv w.e.deps::rD w.e.rv w.e.refs::que gq n (lg V d.1 d.2) (bQ d L)::F):=by
 refine SC.opn ?_;rintro ⟨gm,v,h,R,H⟩ ⟨hq,hi⟩;dsimp only at hi;refine (L5 hd hq hi).out ?_;rintro u _ (⟨h1,h2,rfl⟩ | ⟨x,w,v',h',R',H',h1,h2,h3,h4,h5,rfl⟩)
 ·exact ⟨_,j6 (G:=fun s:Nat × Value × Value × List Wn × List Wn=>stH gq s.1 s.2.1 V s.2.2.1 s.2.2.2.1 s.2.2.2.2 []) (gm,v,h,R,H) ⟨hq,hi⟩,.inl ⟨h1,h2,rfl⟩⟩
 ·have hqd:QI n (lg V d.1 d.2) (bQ d L):=by
   have:=hq.del (gv h1).1 h2;rw [← (gv h1).2];exact this
  exact ⟨_,j4 (j4 (j6 (G:=fun s:Nat × Value × Value × List Wn × List Wn=>stH gq s.1 s.2.1 (lg V d.1 d.2) s.2.2.1 s.2.2.2.1 s.2.2.2.2 []) (gm,v',h',R',H') ⟨hqd,h5⟩)),.inr ⟨x,w,h1,h2,h3,h4,rfl⟩⟩
end

theorem QI.start {n:Nat} (h1:1≤n) (h2:n≤16):QI n (List.replicate n 0) [] where
 n1:=h1
 n2:=h2
 len:=apr
 num:=fun x hx=>by rw [(List.mem_replicate.1 hx).2];omega
 nd:=ard
 fit:=fun w hw=>by simp at hw
 new:=fun w hw=>by simp at hw
 ew:=fun w hw=>by simp at hw
 rf:=fun w hw=>by simp at hw
 many:=by simp
 nrm:=fun w hw=>by simp at hw
 so:= .nil
section
variable {b:World} {F:List SP} {gw n:Nat} {V:List Int} {L M:List Wn} {e:Ev} {s:Int} {d:Int × Int}
theorem ajo {n:Nat} (h1:1≤n) (h2:n≤16):SC Tryz.prog sH [ii n] b F (fun x F'=>∃ gq,x = .tuple ⟨[pp gq,ii 0]⟩∧F'=que gq n (List.replicate n 0) []::F):=by
 refine (aje h1 h2).out ?_;rintro u _ ⟨gq,gm,v,rfl,rfl⟩;exact ⟨_,j6 (G:=fun s:Nat × Value × Value × List Wn × List Wn=>stH gq s.1 s.2.1 (List.replicate n 0) s.2.2.1 s.2.2.2.1 s.2.2.2.2 []) (gm,v,.slice none 0 0,[],[]) ⟨QI.start h1 h2,.refl _,fun i _ h=>by simp at h,.refl _⟩,gq,rfl,rfl⟩
end

section
variable {b:World} {F:List SP} {gw n:Nat} {V:List Int} {L M:List Wn} {e:Ev} {s:Int} {d:Int × Int}
end

section
variable {α:Type} {f:α→List Value} {l:List α} {sz:Nat}
end
section
variable {b:World} {F:List SP} {gw n:Nat} {V:List Int} {L M:List Wn} {e:Ev} {s:Int} {d:Int × Int}
end

section
variable {b:World} {F:List SP} {gw n:Nat} {V:List Int} {L M:List Wn} {e:Ev} {s:Int} {d:Int × Int}
theorem QI.add {n:Nat} {V:List Int} {L:List Wn} {e:Ev} {s:Int} (hq:QI n V L) (hew:EW e) (hl:e.refs.length≤1000000):QI n V (dB V L e s):=by
 unfold dB
 split
 ·exact hq
 ·rename_i h1
  have hf:qb n e s=true:=by
   rw [← hq.len];cases hc:qb V.length e s with
   | true => rfl
   | false => exact absurd (.inl hc) h1
  have hh:fq V e.r e.n=false:=by
   cases hc:fq V e.r e.n with
   | false => rfl
   | true => exact absurd (.inr hc) h1
  split
  ·exact hq.setS hf
  ·rename_i h2
   split
   ·exact hq
   ·exact hq.ins hf hh (by simpa using h2) hew hl (by omega)
end

section
variable {b:World} {F:List SP} {gw n:Nat} {V:List Int} {L M:List Wn} {e:Ev} {s:Int} {d:Int × Int}
end

theorem Ze:EW ev0:=⟨⟨rfl,fun x hx=>by rw [(List.mem_replicate.1 hx).2];decide⟩,⟨by decide,by decide⟩,fun x hx=>by simp at hx,(by unfold I64;decide),fun x hx=>by simp at hx,by decide,by decide⟩
section
variable {b:World} {F:List SP} {gq gw n:Nat} {V:List Int} {L M:List Wn} {e:Ev} {s:Int} {d:Int × Int} {gl:Nat}
theorem Pw:Ent F (rZ (.slice none 0 0) []::rD (.slice none 0 0) []::F):=(df t_api_ID 32 Z).trans (df fd 1 Z)
theorem Hl {k:Nat} (hk:nth F k=some (que gq n V L)):∀ w,Sat b F w→QI n V L:=fun w H=>by
 obtain ⟨h1,_,s,hs,_⟩:=H.mem.get hk;exact hs.1
theorem QI.lds (hq:QI n V L) {x:Wn} (hx:x∈L):x.e.deps.length≤1000000∧x.e.refs.length≤1000000:=by
 have h1:=of_decide_eq_true (hq.fit x hx);have h7:x.e.deps.length=n:=h1.2.2.2.2.2.2.1;have h16:=hq.n2;exact ⟨by omega,hq.rf x hx⟩
theorem ER.of_rows {i j:Nat} (hi:nth F i=some (rZ e.dv e.deps)) (hj:nth F j=some (rD e.rv e.refs)):∀ w,Sat b F w→ER w e:=fun w H=>⟨vlZ hi w H,(H.oat hj).sl⟩
end

def uG (d:Int × Int) (L:List Wn):Ev × Int × Bool:=match jr d L with
 | none => (nE ev0, 0, false)
 | some x => (nE x.e, x.src, true)
structure Hs (d:Int × Int) (L:List Wn) (y:Ev) (s:Int) (is:Bool):Prop where
 eq:(nE y,s,is)=uG d L
 ew:EW y
 ln:y.deps.length≤1000000∧y.refs.length≤1000000
section
variable {b:World} {F:List SP} {gq gw n:Nat} {V:List Int} {L M:List Wn} {e:Ev} {s:Int} {d:Int × Int} {gl:Nat}
theorem Uk (hq:QI n V L) {x:Wn} (h:jr d L=some x) (dv rv:Value):Hs d L (x.e.own dv rv) x.src true :=
 ⟨by rw [uG,h];rfl,(hq.ew x (gv h).1).own dv rv,hq.lds (gv h).1⟩
theorem Ul (h:jr d L=none):Hs d L ev0 0 false:=⟨by rw [uG,h],Ze,by decide,by decide⟩
theorem qS (hd:lm d) (hq:QI n V L):SC Tryz.prog pz [pp gq,y3 d] b (que gq n V L::F) (fun u F'=>∃ y s is,Hs d L y s is∧u = .tuple ⟨[.agg ⟨wsC y s⟩,.bool is]⟩∧F'=rZ y.dv y.deps::rD y.rv y.refs::que gq n V L::F):=by
 refine (Ui hd).out ?_;rintro u _ (⟨h1,h2,rfl⟩ | ⟨x,dv,rv,h1,h2,rfl⟩)
 ·exact ⟨_,Pw,ev0,0,false,Ul h1,h2,rfl⟩
 ·exact ⟨_,Ent.refl _,x.e.own dv rv,x.src,true,Uk hq h1 dv rv,h2,rfl⟩
theorem uH {i j:Nat} (hi:nth F i=some (rZ e.dv e.deps)) (hj:nth F j=some (rD e.rv e.refs)):∀ w,Sat b F w→e.dv.oneCell'=true∧e.rv.oneCell'=true:=fun w H=>by
 obtain ⟨A,c,hv,_⟩:=(ER.of_rows hi hj w H).dv.form;obtain ⟨A2,c2,hv2,_⟩:=cp (ER.of_rows hi hj w H).rv;rw [hv,hv2];exact ⟨rfl,rfl⟩
end

structure Ac where
 kind:Int
 n:Int
 e:Ev
theorem yA {n:Nat} {V:List Int} {L:List Wn} (hq:QI n V L) {d:Int × Int} (hd:d∈ip V L):lm d:=by
 unfold ip at hd;obtain ⟨w,hw,rfl⟩:=anb.1 hd;exact hq.dotOk (anx.1 hw).1
section
variable {b:World} {F:List SP} {gq gw n:Nat} {V:List Int} {L M:List Wn} {a:Ac}
end

section
variable {b:World} {F:List SP} {gq gw n:Nat} {V:List Int} {L M:List Wn} {e:Ev} {s:Int} {d:Int × Int}
end

abbrev Em:=Int × Int × List Int
def cnt (q:Int) (A:List Em):Int:=((A.filter fun e=>decide (e.1=q)).length:Int)
structure Md (n:Nat) (A:List Em):Prop where
 r:∀ i (hi:i<A.length),1≤A[i].1∧A[i].1≤n
 m:∀ i (hi:i<A.length),A[i].2.1=cnt A[i].1 (A.take i)+1
 len:∀ i (hi:i<A.length),A[i].2.2.length=n
 own:∀ i (hi:i<A.length),A[i].2.2.getD (A[i].1 - 1).toNat 0=A[i].2.1 - 1
 dep:∀ i (hi:i<A.length) (q:Nat),q<n→0≤A[i].2.2.getD q 0∧A[i].2.2.getD q 0≤cnt ((q:Int)+1) (A.take i)
theorem jz {l:List Int} {i:Nat} (h:i<l.length):l.getD i 0=l[i]:=by
 rw [ano,am8 h];rfl
section
variable {n:Nat} {A:List Em} (hm:Md n A)
include hm
end
theorem tu {α:Type}:∀ {l l':List α},l.Nodup→(∀ x∈l,x∈l')→l.length≤l'.length
 | [], _, _, _ => by simp
 | a :: l, l', h, hs => by
  obtain ⟨s,t,rfl⟩:=ao3 (hs a anl);rw [ao6] at h;have:=tu (l':=s++t) h.2 (fun x hx=>by
   have h1:=hs x (ank _ hx);rcases anr.1 h1 with h1 | h1
   ·exact an5 _ h1
   ·rcases anj.1 h1 with rfl | h1
    ·exact absurd hx h.1
    ·exact aoj _ h1)
  simp only [anp,am9] at this ⊢;omega
abbrev em (e:Ev):Em:=(e.r,e.n,e.deps)
structure Qp (A:List Em) (V:List Int) (L:List Wn) (out:List Ev):Prop where
 inA:∀ w∈L,em w.e∈A
 outA:∀ e∈out,em e∈A
 und:∀ e∈out,fq V e.r e.n=true
 dl:∀ e∈out,lf e.deps V=true
 del:∀ q m,fq V q m=true→∃ e∈out,e.r=q∧e.n=m
 ord:out.Pairwise fun a c=>fq a.deps c.r c.n=false∧¬ (a.r=c.r∧a.n=c.n)
 self:∀ e∈out,fq e.deps e.r e.n=false
 ew:∀ e∈out,EW e
theorem mt {V:List Int} {q m:Int}:fq V q m=true↔1≤q∧1≤m∧m≤atL V q:=by simp [fq,and_assoc]
theorem y9 {u v:List Int} {q m:Int} (h:lf u v=true) (h2:fq u q m=true):fq v q m=true:=by
 rw [mt] at h2 ⊢;refine ⟨h2.1,h2.2.1,Int.le_trans h2.2.2 ?_⟩;have h3:=(qx _ _).1 h (q - 1).toNat;unfold atL
 split <;> split
 ·exact h3
 ·rename_i h4 h5
  rw [sZ (xs:=v) (by omega)] at h3;exact h3
 ·exact bI _ _
 ·exact aql _
theorem za {u v w:List Int} (h1:lf u v=true) (h2:lf v w=true):lf u w=true:=(qx _ _).2 fun i=>Int.le_trans ((qx _ _).1 h1 i) ((qx _ _).1 h2 i)
theorem mV {V:List Int} {r m:Int} (h1:1≤r) (h2:r≤V.length) (h3:atL V r≤m):lf V (lg V r m)=true:=(qx _ _).2 fun i=>by
 rw [Hk h1 h2]
 split
 ·rename_i e
  rw [atL,if_pos ⟨h1,h2⟩,← e] at h3;omega
 ·exact aql _
section
variable {n:Nat} {A:List Em} {V:List Int} {L:List Wn} {out:List Ev} (hq:QI n V L) (hp:Qp A V L out)
include hq hp in
theorem Qp.deliver {x:Wn} {e:Ev} (hx:x∈L) (hl:lf x.e.deps V=true) (he:em e=em x.e) (hew:EW e):Qp A (lg V x.e.r x.e.n) (bQ (dotW x) L) (out ++ [e]):=by
 obtain ⟨h1,h2,h3,h4,h5⟩:=hq.ripe hx hl;have hnew:=hq.new x hx;have he1:e.r=x.e.r:=am7 (·.1) he;have he2:e.n=x.e.n:=am7 (·.2.1) he;have he3:e.deps=x.e.deps:=am7 (·.2.2) he;have hle:=mV h1 h2 (m:=x.e.n) (by omega);have hhas:fq (lg V x.e.r x.e.n) x.e.r x.e.n=true:=mt.2 ⟨h1,h3,by rw [mU h1 h2 (by omega),if_pos rfl];omega⟩;have hxn:fq x.e.deps x.e.r x.e.n=false:=by
  cases hc:fq x.e.deps x.e.r x.e.n with
  | false => rfl
  | true => rw [y9 hl hc] at hnew; cases hnew
 refine ⟨fun w hw=>hp.inA w (bR.1 hw).1,fun y hy=> ?_,fun y hy=> ?_,fun y hy=> ?_,fun q m hqm=> ?_,?_,fun y hy=> ?_,fun y hy=> ?_⟩
 ·rcases anr.1 hy with hy | hy
  ·exact hp.outA y hy
  ·rw [anc.1 hy,he];exact hp.inA x hx
 ·rcases anr.1 hy with hy | hy
  ·exact y9 hle (hp.und y hy)
  ·rw [anc.1 hy,he1,he2];exact hhas
 ·rcases anr.1 hy with hy | hy
  ·exact za (hp.dl y hy) hle
  ·rw [anc.1 hy,he3];exact za hl hle
 ·obtain ⟨g1,g2,g3⟩:=mt.1 hqm;rw [mU h1 h2 (by omega)] at g3;by_cases hc:q=x.e.r∧m=x.e.n
  ·exact ⟨e,by simp,by rw [he1];exact hc.1.symm,by rw [he2];exact hc.2.symm⟩
  ·have:m≤atL V q:=by
    split at g3
    ·rename_i h6;subst h6;have:m≠x.e.n:=fun h=>hc ⟨rfl,h⟩;omega
    ·exact g3
   obtain ⟨y,hy,hy2⟩:=hp.del q m (mt.2 ⟨g1,g2,this⟩);exact ⟨y,an5 _ hy,hy2⟩
 ·refine aof.2 ⟨hp.ord,by simp,fun a ha c hc=> ?_⟩;rw [anc.1 hc,he1,he2];refine ⟨?_,fun hcc=> ?_⟩
  ·cases hb:fq a.deps x.e.r x.e.n with
   | false => rfl
   | true => rw [y9 (hp.dl a ha) hb] at hnew; cases hnew
  ·have:=hp.und a ha;rw [hcc.1,hcc.2,hnew] at this;cases this
 ·rcases anr.1 hy with hy | hy
  ·exact hp.self y hy
  ·rw [anc.1 hy,he1,he2,he3];exact hxn
 ·rcases anr.1 hy with hy | hy
  ·exact hp.ew y hy
  ·rw [anc.1 hy];exact hew
include hq hp in
theorem Qp.small:L.length≤A.length:=by
 have h1:(L.map fun w=>em w.e).Nodup:=by
  have h2:=hq.nd;have h3:L.map dotW=(L.map fun w=>em w.e).map fun e=>(e.1,e.2.1):=by rw [apk];rfl
  rw [h3] at h2;exact List.Pairwise.of_map _ (fun a c hac hc=>hac (by rw [hc])) h2
 have:=tu h1 (l':=A) fun y hy=>by
  obtain ⟨w,hw,rfl⟩:=anb.1 hy;exact hp.inA w hw
 simpa using this
def inQ (V:List Int) (L:List Wn) (d:Int × Int):Prop:=fq V d.1 d.2=true∨∃ w∈L,dotW w=d
include hq in
theorem Ea {x:Wn} (hx:x∈L) (hl:lf x.e.deps V=true) {d:Int × Int} (h:inQ V L d):inQ (lg V x.e.r x.e.n) (bQ (dotW x) L) d:=by
 obtain ⟨h1,h2,h3,h4,h5⟩:=hq.ripe hx hl;rcases h with h | ⟨w,hw,hd⟩
 ·exact .inl (y9 (mV h1 h2 (by omega)) h)
 ·by_cases hc:d=dotW x
  ·subst hc;exact .inl (mt.2 ⟨h1,h3,by show x.e.n≤atL _ x.e.r;rw [mU h1 h2 (by omega),if_pos rfl];omega⟩)
  ·exact .inr ⟨w,bR.2 ⟨hw,by rw [hd];exact hc⟩,hd⟩
include hq hp in
theorem Qp.add {e:Ev} {s:Int} (hA:A.length≤60) (he:em e∈A) (hf:qb V.length e s=true):wL V L e s=0∧Qp A V (dB V L e s) out∧inQ V (dB V L e s) (e.r,e.n)∧∀ d,inQ V L d→inQ V (dB V L e s) d:=by
 have hsm:=hp.small hq;have hin:∀ {L':List Wn},(∀ w∈L',em w.e∈A)→Qp A V L' out:=fun h=>⟨h,hp.outA,hp.und,hp.dl,hp.del,hp.ord,hp.self,hp.ew⟩
 refine ⟨?_,?_⟩
 ·rw [wL,if_neg (by rw [hf];decide)]
  split
  ·rfl
  ·rw [if_neg (by omega)]
 unfold dB
 split
 ·rename_i h1
  have hh:fq V e.r e.n=true:=h1.resolve_left (by rw [hf];decide);exact ⟨hp,.inl hh,fun d h=>h⟩
 ·split
  ·rename_i h1 h2
   obtain ⟨x,hx⟩:=Option.isSome_iff_exists.1 h2;have hmem:∀ w∈L,pd (e.r,e.n) s w∈L.map (pd (e.r,e.n) s)∧dotW (pd (e.r,e.n) s w)=dotW w:=fun w hw=>⟨anb.2 ⟨w,hw,rfl⟩,by rw [dotW,dotW,y8]⟩
   refine ⟨hin fun w hw=> ?_,.inr ⟨_,(hmem x (gv hx).1).1,(hmem x (gv hx).1).2.trans (gv hx).2⟩,fun d hd=> ?_⟩
   ·obtain ⟨y,hy,rfl⟩:=anb.1 hw;rw [y8];exact hp.inA y hy
   ·rcases hd with hd | ⟨w,hw,hd⟩
    ·exact .inl hd
    ·exact .inr ⟨_,(hmem w hw).1,(hmem w hw).2.trans hd⟩
  ·rw [if_neg (by omega)];have hpm:=x9 (nW ⟨0,e,s⟩) L;refine ⟨hin fun w hw=> ?_,.inr ⟨nW ⟨0,e,s⟩,hpm.symm.subset anl,rfl⟩,fun d hd=> ?_⟩
   ·rcases anj.1 (hpm.subset hw) with rfl | h
    ·exact he
    ·exact hp.inA w h
   ·rcases hd with hd | ⟨w,hw,hd⟩
    ·exact .inl hd
    ·exact .inr ⟨w,hpm.symm.subset (ank _ hw),hd⟩
include hp in
end
end Go.Proofs.YtbpdffopjkhelaaGreat
