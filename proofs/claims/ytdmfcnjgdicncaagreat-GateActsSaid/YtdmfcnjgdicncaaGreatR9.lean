/- Queues, part fifteen: what fits. Conditions: not too many. -/
import Derived.Test.YtdmfcnjgdicncaaGreatR5
import Derived.LaidEqlPtr
import Derived.Test.YtdmfcnjgdicncaaGreatR4
import Derived.Test.YtdmfcnjgdicncaaGreatR3
namespace Go.Proofs.YtdmfcnjgdicncaaGreat
open Go.Eng Go.RowKit Go.WideMaps Go.Heap

def s7 (n:Nat) (e:Ev) (src:Int):Bool:=decide (1≤src∧src≤n∧1≤e.r∧e.r≤n∧1≤e.n∧e.n≤1048576∧e.deps.length=n∧uv e.deps∧e.deps.getD (e.r - 1).toNat 0=e.n - 1)
section
variable {b:World} {F:List SP} {gq gm:Nat} {v h:Value} {V:List Int} {R H:List Wn}
set_option maxRecDepth 20000 in
set_option maxHeartbeats 2000000 in
theorem a7j {e:Ev} {src:Int} (he:∀ w,Sat b (stH gq gm v V h R H F) w→VL (Value.int .i64) w e.dv e.deps) (hd:e.deps.length≤1000000) :
  SC Tryz.prog adn [.pointer (some ⟨gq,0,none⟩),evV e,.int .i64 src] b (stH gq gm v V h R H F) (fun u F'=>u = .bool (s7 V.length e src)∧F'=stH gq gm v V h R H F):=by
 refine bf Tryz.func123 Z Z Z <| bt (fun w H=>(H.oat (k:=1) Z).form) ?_
 rintro ⟨A1,c1,rfl,_,_,_⟩
 refine bt (fun w H=>(he w H).form) ?_
 rintro ⟨A2,c2,hv2,k1,k2,k3,k4⟩
 refine bd4 <| cq Z Z Z Z Z fun g4=>af Z <| bd3 <| ae <| b7 flo (pt g4 bo (evC e)::pt gq kz [.slice A1 V.length c1,h,.map (some gm)]::F) (by decide +kernel) (ac 6 [0,1] Z Z) <| ay Z Zl <| ay Z Zl <| ay Z Zl <| de 1 Z Z Z Z <| ay Z Zl <| ay Z Zl <| de 0 Z Z Z Z <| m6 Z Z Z Z Z Z (ac 6 [0,1] Z Z) fun g8=>ay Z Zl <| a51 0 Z Z Z Z Z Z Z Z Z Z Z Z (ac 7 [1,2] Z Z) ?_
 skip
 refine az <| aa <| ae <| b7 flo (pt g8 t_api_Dot [.int .i64 e.r,.int .i64 e.n]::pt g4 bo (evC e)::stH gq gm (.slice A1 V.length c1) V h R H F) (by decide +kernel) (Ent.refl _) ?_
 have no:∀ (hf:¬ (1≤src∧src≤V.length∧1≤e.r∧e.r≤V.length∧1≤e.n∧e.n≤1048576∧e.deps.length=V.length∧uv e.deps∧e.deps.getD (e.r - 1).toNat 0=e.n - 1)),false=s7 V.length e src:=fun hf=>(decide_eq_false hf).symm
 refine ay Z Zl <| ay Z Zl <| ay Z Zl ?_
 by_cases d0:1≤src
 rotate_left
 ·refine b4 18 (.bool false) Z (by simp;omega) ?_
  (iterate 29 refine ay Z Zl ?_)
  refine ay Z (.inr Z) ?_
  (iterate 15 refine ay Z Zl ?_)
  refine az <| aa <| aj <| ai Z (.tmp Z .nil) (ac 7 [2,3,4,5,6] Z Z) ?_
  exact ⟨congrArg Value.bool (no fun hh=>by omega),rfl⟩
 refine b4 18 (.bool true) Z (by simp;omega) ?_
 (iterate 5 refine ay Z Zl ?_)
 by_cases d1:src≤(V.length:Int)
 rotate_left
 ·refine b4 23 (.bool false) Z (by simp;omega) ?_
  (iterate 24 refine ay Z Zl ?_)
  refine ay Z (.inr Z) ?_
  (iterate 15 refine ay Z Zl ?_)
  refine az <| aa <| aj <| ai Z (.tmp Z .nil) (ac 7 [2,3,4,5,6] Z Z) ?_
  exact ⟨congrArg Value.bool (no fun hh=>by omega),rfl⟩
 refine b4 23 (.bool true) Z (by simp;omega) ?_
 refine ay Z Zl <| de 0 Z Z Z Z <| ay Z Zl <| ay Z Zl <| ay Z Zl ?_
 by_cases d2:1≤e.r
 rotate_left
 ·refine b4 28 (.bool false) Z (by simp;omega) ?_
  (iterate 19 refine ay Z Zl ?_)
  refine ay Z (.inr Z) ?_
  (iterate 15 refine ay Z Zl ?_)
  refine az <| aa <| aj <| ai Z (.tmp Z .nil) (ac 7 [2,3,4,5,6] Z Z) ?_
  exact ⟨congrArg Value.bool (no fun hh=>by omega),rfl⟩
 refine b4 28 (.bool true) Z (by simp;omega) ?_
 refine ay Z Zl <| de 0 Z Z Z Z <| ay Z Zl <| ay Z Zl <| ay Z Zl <| ay Z Zl ?_
 by_cases d3:e.r≤(V.length:Int)
 rotate_left
 ·refine b4 34 (.bool false) Z (by simp;omega) ?_
  (iterate 13 refine ay Z Zl ?_)
  refine ay Z (.inr Z) ?_
  (iterate 15 refine ay Z Zl ?_)
  refine az <| aa <| aj <| ai Z (.tmp Z .nil) (ac 7 [2,3,4,5,6] Z Z) ?_
  exact ⟨congrArg Value.bool (no fun hh=>by omega),rfl⟩
 refine b4 34 (.bool true) Z (by simp;omega) ?_
 refine ay Z Zl <| de 0 Z Z Z Z <| ay Z Zl <| ay Z Zl <| ay Z Zl ?_
 by_cases d4:1≤e.n
 rotate_left
 ·refine b4 39 (.bool false) Z (by simp;omega) ?_
  (iterate 8 refine ay Z Zl ?_)
  refine ay Z (.inr Z) ?_
  (iterate 15 refine ay Z Zl ?_)
  refine az <| aa <| aj <| ai Z (.tmp Z .nil) (ac 7 [2,3,4,5,6] Z Z) ?_
  exact ⟨congrArg Value.bool (no fun hh=>by omega),rfl⟩
 refine b4 39 (.bool true) Z (by simp;omega) ?_
 refine ay Z Zl <| de 0 Z Z Z Z <| ay Z Zl <| ay Z Zl <| ay Z Zl ?_
 by_cases d5:e.n≤1048576
 rotate_left
 ·refine b4 44 (.bool false) Z (by simp;omega) ?_
  refine ay Z Zl <| ay Z Zl <| ay Z Zl <| ay Z (.inr Z) ?_
  (iterate 15 refine ay Z Zl ?_)
  refine az <| aa <| aj <| ai Z (.tmp Z .nil) (ac 7 [2,3,4,5,6] Z Z) ?_
  exact ⟨congrArg Value.bool (no fun hh=>by omega),rfl⟩
 refine b4 44 (.bool true) Z (by simp;omega) ?_
 refine ay Z Zl <| de 1 Z Z Z Z <| ay Z Zl <| cz Z Z Z Z (awr (up he (ac 7 [2,3,4,5,6] Z Z)) hd) (Ent.refl _) <| ay Z Zl <| ay Z Zl ?_
 by_cases d6:e.deps.length=V.length∧uv e.deps
 rotate_left
 ·refine b4 50 (.bool false) Z (congrArg Value.bool (by simpa using d6)) ?_
  (iterate 13 refine ay Z Zl ?_)
  refine az <| aa <| aj <| ai Z (.tmp Z .nil) (ac 7 [2,3,4,5,6] Z Z) ?_
  exact ⟨congrArg Value.bool (no fun hh=>d6 ⟨hh.2.2.2.2.2.2.1,hh.2.2.2.2.2.2.2.1⟩),rfl⟩
 refine b4 50 (.bool true) Z (congrArg Value.bool (by simpa using d6)) ?_
 refine ay Z Zl <| de 1 Z Z Z Z <| ay Z Zl <| de 0 Z Z Z Z <| dj Z Z (by (unfold I64;omega)) ?_
 obtain ⟨d7,d8⟩:=d6
 obtain ⟨k,hk⟩:∃ k:Nat,e.r - 1=(k:Int):=⟨(e.r - 1).toNat,by omega⟩
 have hkl:k<e.deps.length:=by omega
 obtain ⟨bk,off,rfl⟩:=k4 (by omega)
 have hg:e.deps.getD (e.r - 1).toNat 0=e.deps[k]:=by rw [show (e.r - 1).toNat=k by omega,List.getD_eq_getElem?_getD,List.getElem?_eq_getElem hkl];rfl
 have he2:∀ w,Sat b (pt g8 t_api_Dot [.int .i64 e.r,.int .i64 e.n]::pt g4 bo (evC e)::stH gq gm (.slice A1 V.length c1) V h R H F) w→VL (Value.int .i64) w (.slice (some ⟨bk,off,none⟩) e.deps.length c2) e.deps:=fun w H=>hv2▸up he (ac 7 [2,3,4,5,6] Z Z) w H
 refine b4 52 (.slice (some ⟨bk,off,none⟩) e.deps.length c2) Z hv2 <| dj Z Z (by omega) ?_
 refine fu Z (fun w H=>bm Z Z Z (by rw [bi,show (e.r - 1).toNat=k by omega,Nat.mul_one];exact VL.at (he2 w H) k hkl)) Z Z ?_
 refine ay Z Zl <| de 0 Z Z Z Z <| dj Z Z (by (unfold I64;omega)) <| ay Z Zl <| ay Z Zl <| ay Z Zl <| az <| aa <| aj <| ai Z (.tmp Z .nil) (ac 7 [2,3,4,5,6] Z Z) <| ⟨congrArg Value.bool ?_,rfl⟩
 rw [s7,hg]
 simp [d0,d1,d2,d3,d4,d5,d7,d8]
end

theorem a7k (x:Wn) {H:List Wn} (h:ow (x.e.r,x.e.n) (wM H)=none):yx (x.e.r,x.e.n) (.pointer (some ⟨x.g,0,none⟩)) (wM H)=wM (H ++ [x]):=by
 induction H with
 | nil => rfl
 | cons e l ih =>
  simp only [wM,ow] at h
  split at h
  ·cases h
  ·rename_i hne
   simp only [wM,yx,List.cons_append,if_neg hne,ih h]
theorem a3l {H:List Wn} {x:Wn}:(wF (H ++ [x])).Perm (wP x++wF H):=by
 have:=akg (l1:=H) (l2:= []) (e:=x)
 rwa [List.append_nil] at this
section
variable {b:World} {F:List SP} {gq gm:Nat} {v h:Value} {V:List Int} {R H:List Wn}
set_option maxRecDepth 20000 in
set_option maxHeartbeats 2000000 in
theorem a7l {e:Ev} {s:Int} (h32:∀ e∈H,e.e.id.length=32) (hs:∀ e∈R,e∈H) (hn:R.length≤100000) (he32:e.id.length=32) (hdot:j8 (e.r,e.n)) (hno:ow (e.r,e.n) (wM H)=none)
  (ha:∀ w,Sat b F w→VL (Value.int .i64) w e.dv e.deps) (hr:∀ w,Sat b F w→SL w 32 e.rv e.refs.length (et e.refs)) (hd:e.deps.length≤1000000) (hl:e.refs.length≤1000000) :
  SC Tryz.prog ado [.pointer (some ⟨gq,0,none⟩),.agg ⟨wsC e s⟩] b (stH gq gm v V h R H F)
   (fun _ F'=>∃ g dv rv h',F'=stH gq gm v V h' (upG (R.length+1) (R ++ [⟨g,e.own dv rv,s⟩]) R.length) (H ++ [⟨g,e.own dv rv,s⟩]) F):=by
 refine bf Tryz.func124 Z Z Z <| bd4 <| cq Z Z Z Z Z fun g3=>a8r ?_
 refine dk 0 Z Z Z Z Z Z (fd (by rw [ec he32];rfl)) Z ?_
 refine bq Z Z Z (azn he32 (up ha (ac 6 [] Z Z)) (up hr (ac 6 [] Z Z)) hd hl) ?_
 rintro _ _ ⟨dv,rv,rfl,rfl⟩
 refine b9 (fun w H=>(H.oat (k:=0) Z).form) ?_
 rintro ⟨A1,c1,rfl,_,_,_⟩
 refine b9 (fun w H=>(H.oat (k:=1) Z).form) ?_
 rintro ⟨A2,c2,rfl,_,_,_⟩
 have h33:(e.own (.slice A1 e.deps.length c1) (.slice A2 e.refs.length c2)).id.length=32:=he32
 have hone:=ng (e:=e.own (.slice A1 e.deps.length c1) (.slice A2 e.refs.length c2)) (s:=s) Z Z
 refine im 2 Z Z Z Z Z Z Z (ec h33) hone (by rw [ec h33,ec he32]) ?_
 refine bd3 <| ae <| b7 flo (pt g3 b8 (wsC (e.own (.slice A1 e.deps.length c1) (.slice A2 e.refs.length c2)) s)::pt gq kz [v,h,.map (some gm)]::F) (by decide +kernel) (ac 8 [2,3] Z Z) <| ay Z Zl <| ay Z Zl <| ay Z Zl <| de 1 Z Z Z Z <| ay Z Zl <| ay Z Zl <| de 0 Z Z Z Z <| anp 6 uu hdot Z Z Z Z Z Z Z Z Z (ac 8 [2,3] Z Z) <| az ?_
 have hput:=a7k ⟨g3,e.own (.slice A1 e.deps.length c1) (.slice A2 e.refs.length c2),s⟩ (H:=H) hno
 rw [show yx (e.r,e.n) (.pointer (some ⟨g3,0,none⟩)) (wM H)=wM (H ++ [⟨g3,e.own (.slice A1 e.deps.length c1) (.slice A2 e.refs.length c2),s⟩]) from hput]
 refine aa <| ab <| b9 (fun w H=>(H.oat (k:=5) Z).form) ?_
 rintro ⟨A3,c3,rfl,_,_,_⟩
 refine fq (ac 8 [2,0,1,7,3,5,4,6] Z Z) <| fq (ql (B:=wP ⟨g3,e.own (.slice A1 e.deps.length c1) (.slice A2 e.refs.length c2),s⟩) (C:=wF H) (A:=wF (H ++ [⟨g3,e.own (.slice A1 e.deps.length c1) (.slice A2 e.refs.length c2),s⟩])) a3l) <| fq (ac 5 [1,2,0,3,4] Z Z) ?_
 (iterate 5 refine af Z ?_)
 have hpush:=azz (b:=b) (F:=rZ v V::mpH gm (H ++ [(⟨g3,e.own (.slice A1 e.deps.length c1) (.slice A2 e.refs.length c2),s⟩:Wn)])::F) (A:=A3) (c:=c3) (n:=R.length) (gh:=gq) (t0:=kz) (off:=1) (cs:=fun u=> [v,u,.map (some gm)]) (x:=(⟨g3,e.own (.slice A1 e.deps.length c1) (.slice A2 e.refs.length c2),s⟩:Wn)) (l:=R) (H:=H ++ [(⟨g3,e.own (.slice A1 e.deps.length c1) (.slice A2 e.refs.length c2),s⟩:Wn)]) (hcq _ _) (fun a ha=>by
  rcases List.mem_append.1 ha with h | h
  ·exact h32 a h
  ·rw [List.mem_singleton.1 h];exact he32) (fun a ha=>List.mem_append_left _ (hs a ha)) (List.mem_append_right _ (List.mem_singleton.2 Z)) Z (by omega)
 refine bq Z Z Z (hpush) ?_
 rintro _ _ ⟨A',c',rfl⟩
 refine ad <| m5 Z .nil (ac 5 [0,3,1,4,2] Z Z) <| ⟨g3,.slice A1 e.deps.length c1,.slice A2 e.refs.length c2,.slice A' (R.length+1) c',?_⟩
 have hlen:(upG (R.length+1) (R ++ [⟨g3,e.own (.slice A1 e.deps.length c1) (.slice A2 e.refs.length c2),s⟩]) R.length).length=R.length+1:=by rw [aoh];simp
 simp only [stH,rP,hlen]
end
open Go

theorem a7m {P:Program} {E:List (Nat × Value)} {ty:TypeId} {w:World} {t t' te:TypeId} {j:TypeInfo} {x y:Operand} {g1 g2 t1 t2:Nat} {c1 c2:List Value} (hp:P.underlying t=some (.pointer te)) (hte:P.info? te=some j) (hsz:j.size≠0)
  (hx:ev E x=some (.pointer (some ⟨g1,0,none⟩))) (hy:ev E y=some (.pointer (some ⟨g2,0,none⟩))) (b1:Blk w g1 t1 c1) (b2:Blk w g2 t2 c2):Ex P E (.binOp .eql t x y t') ty w (.bool (decide (g1=g2))) w:=by
 intro ρ o hρ ho _
 have hr:(binOp .eql t (.pointer (some ⟨g1,0,none⟩)) (.pointer (some ⟨g2,0,none⟩))).run P w = .ok (.bool (decide (g1=g2))) w:=by
  by_cases e:g1=g2
  ·subst e;rw [Go.run_eql_ptr_same w _ hp hte];simp
  ·rw [Go.run_eql_ptr_other (a:=⟨g1,0,none⟩) (b:=⟨g2,0,none⟩) w hp hte hsz (fun h=>e (congrArg Addr.block h)) b1 b2];simp [e]
 have hg:(eqGuard .eql t x y (.pointer (some ⟨g1,0,none⟩)) (.pointer (some ⟨g2,0,none⟩))).run P w = .ok () w:=by
  simp [eqGuard]
 simp [execOp,hg,ho,hρ _ _ hx,hρ _ _ hy,hr,Result.andThen]

theorem bdt:∃ j,Tryz.prog.info? b8=some j∧j.size≠0:=by
 have h:(Tryz.prog.info? b8).isSome=true:=by kernel_rfl
 refine ⟨(Tryz.prog.info? b8).get h,by simp,?_⟩
 have h2:(((Tryz.prog.info? b8).get h).size == 0)=false:=by kernel_rfl
 simpa using h2
section
variable {b:World} {F:List SP} {h:Value} {R H:List Wn} {e:Wn}
theorem a3m {kk:Nat} (hF:nth F kk=some (all (wF H))) (hs:∀ e∈R,e∈H) (ha:∀ w,Sat b F w→SL w 1 h R.length (n8 R)) (hn:R.length≤100000) (he:e∈R) :
  SC Tryz.prog ns [h,.pointer (some ⟨e.g,0,none⟩)] b F (fun u F'=>(∃ i:Nat,u = .int .i64 i∧∃ hi:i<R.length,R[i].g=e.g)∧F'=F):=by
 refine bf Tryz.func137 Z Z Z <| bt (fun w H=>du (ha w H)) ?_
 rintro ⟨A,c,rfl,h1,h2,h3,h4,_⟩
 refine bd4 <| af Z <| bd3 <| ae <| bd4 <| bgj Z Z Z <| bd3 <| ar <| b6 (S:=Nat) (fun i=> [(0,.slice A R.length c),(1,.pointer (some ⟨e.g,0,none⟩)),(7,.int .i64 R.length),(8,.int .i64 (i:Int))]) (fun _=>F) (fun i=>i≤R.length∧∀ k (hk:k<R.length),k<i→R[k].g≠e.g) (fun i=>R.length - i) 0 ⟨rfl,rfl,rfl,rfl,trivial⟩ (Ent.refl _) ⟨Nat.zero_le _,fun k _ h=>absurd h (Nat.not_lt_zero k)⟩ ?_
 rintro i ⟨hi,hk⟩
 refine bd4 <| af Z <| bd3 <| ae ?_
 refine di Z (fun h=> ?_) (fun h=> ?_)
 ·have h':i<R.length:=by omega
  obtain ⟨bk,off,rfl⟩:=h4 (by omega)
  have ci:∀ w,Sat b F w→w.cell? ⟨bk,off+i,none⟩=some (.pointer (some ⟨R[i].g,0,none⟩)):=fun w H=>by
   obtain ⟨A',c',hv,hl,_,_,_,hc⟩:=ha w H
   cases hv
   obtain ⟨b',o',hA,_,hcc⟩:=hc (by omega)
   cases hA
   rw [hcc i (by simp;exact h')];simp [n8,h']
  refine ao <| aa <| ae <| ar <| bd4 <| bgi Z Z <| a8r <| bgj Z Z Z <| b5 Z (by omega) ?_
  refine iu Z (fun w H=>bm Z Z Z (by rw [bi,Int.toNat_natCast,Nat.mul_one];exact ci w H)) Z ?_
  skip
  obtain ⟨j,hj1,hj2⟩:=bdt
  refine iu Z (fun w H=>a7m (by kernel_rfl) hj1 hj2 Z Z (akh hF (hs _ he) w H) (akh hF (hs _ (List.getElem_mem h')) w H)) Z ?_
  by_cases hg:e.g=R[i].g
  ·refine a9 16 (.bool true) Z (congrArg Value.bool (decide_eq_true hg)) <| bd3 <| aq Z <| bd4 <| bgi Z Z <| bd3 <| aj <| ap <| ag <| da <| ap <| ag <| ai Z (.tmp Z .nil) (Ent.refl _) ?_
   exact ⟨⟨i,rfl,h',hg.symm⟩,rfl⟩
  ·refine a9 16 (.bool false) Z (congrArg Value.bool (decide_eq_false hg)) <| bd3 <| al Z <| ao <| ba <| aa <| ab <| b5 Z (by (unfold I64;omega)) <| af Z <| ad <| bj (i+1) ⟨rfl,rfl,rfl,rfl,trivial⟩ (Ent.refl _) ⟨h',fun k hkk hlt=> ?_⟩ (by omega)
   by_cases e1:k=i
   ·subst e1;exact fun hc=>hg hc.symm
   ·exact hk k hkk (by omega)
 ·exfalso
  obtain ⟨k,hkk,rfl⟩:=List.mem_iff_getElem.1 he
  exact hk k hkk (by omega) Z
end

section
variable {b:World} {F:List SP} {p:Value} (hn:∀ A:List SP,SC Tryz.prog vh [p] b (A++F) (fun v F'=>v = .bool true∧F'=A++F))
include hn
abbrev ev0:Ev:=⟨0,0,.slice none 0 0,[],0,⟨#[]⟩,⟨#[]⟩,List.replicate 32 0,.slice none 0 0,[]⟩
end

abbrev dotW (w:Wn):Int × Int:=(w.e.r,w.e.n)
theorem a0c {a c:Wn} (h1:leG a c) (h2:leG c a):dotW a=dotW c:=by
 unfold leG at h1 h2
 rw [aqw,ltE,aa0,decide_eq_true_eq] at h1 h2
 have h3:a.e.r=c.e.r:=by omega
 have h4:a.e.n=c.e.n:=by omega
 rw [dotW,dotW,h3,h4]
theorem af4 {L:List Wn} (hnd:(L.map dotW).Nodup) {a c:Wn} (ha:a∈L) (hc:c∈L) (h:dotW a=dotW c):a=c:=by
 induction L with
 | nil => simp at ha
 | cons x L ih =>
  simp only [List.map_cons,List.nodup_cons] at hnd
  rcases List.mem_cons.1 ha with rfl | ha' <;> rcases List.mem_cons.1 hc with rfl | hc'
  ·rfl
  ·exact absurd (h▸List.mem_map.2 ⟨c,hc',rfl⟩) hnd.1
  ·exact absurd (h▸List.mem_map.2 ⟨a,ha',rfl⟩) hnd.1
  ·exact ih hnd.2 ha' hc'
theorem aq8 {O L:List Wn} (h1:O.Pairwise leG) (h2:L.Pairwise leG) (hp:O.Perm L) (hnd:(L.map dotW).Nodup):O=L :=
 List.Perm.eq_of_pairwise (fun _ _ ha hc h3 h4=>af4 hnd (hp.subset ha) hc (a0c h3 h4)) h1 h2 hp
def jc (d:Int × Int) (L:List Wn):Option Wn:=L.find? fun w=>decide (dotW w=d)
theorem fg {d:Int × Int} {L:List Wn} {x:Wn} (h:jc d L=some x):x∈L∧dotW x=d :=
 ⟨List.mem_of_find?_eq_some h,by simpa using List.find?_some h⟩
theorem ae0 {d:Int × Int} {L:List Wn} (h:jc d L=none):∀ x∈L,dotW x≠d:=by
 intro x hx
 have:=List.find?_eq_none.1 h x hx
 simpa using this
theorem r6 {d:Int × Int} {L:List Wn} {x:Wn} (hnd:(L.map dotW).Nodup) (hx:x∈L) (hd:dotW x=d):jc d L=some x:=by
 cases h:jc d L with
 | none => exact absurd hd (ae0 h x hx)
 | some y => rw [af4 hnd (fg h).1 hx ((fg h).2.trans hd.symm)]
theorem aeb {d:Int × Int} {L:List Wn} (h:∀ x∈L,dotW x≠d):jc d L=none:=by
 cases hf:jc d L with
 | none => rfl
 | some y => exact absurd (fg hf).2 (h y (fg hf).1)
def ae1 (x:Wn):List Wn→List Wn
 | [] => [x]
 | y :: l => if HOrd.lt y x = true then y :: ae1 x l else x :: y :: l
theorem wj (x:Wn) (l:List Wn):(ae1 x l).Perm (x::l):=by
 induction l with
 | nil => exact .refl _
 | cons y l ih =>
  simp only [ae1]
  split
  ·exact (List.Perm.cons y ih).trans (.swap _ _ _)
  ·exact .refl _
theorem aq9 {x:Wn} {l:List Wn} (h:l.Pairwise leG):(ae1 x l).Pairwise leG:=by
 induction l with
 | nil => exact List.pairwise_singleton _ _
 | cons y l ih =>
  simp only [ae1]
  split
  ·rename_i hlt
   refine List.pairwise_cons.2 ⟨fun z hz=> ?_,ih (List.pairwise_cons.1 h).2⟩
   rcases List.mem_cons.1 ((wj x l).subset hz) with rfl | hz
   ·exact ake hlt
   ·exact (List.pairwise_cons.1 h).1 z hz
  ·rename_i hlt
   refine List.pairwise_cons.2 ⟨fun z hz=> ?_,h⟩
   rcases List.mem_cons.1 hz with rfl | hz
   ·exact hlt
   ·exact pr hlt ((List.pairwise_cons.1 h).1 z hz)
def oq (d:Int × Int) (s:Int) (w:Wn):Wn:=if dotW w=d then ⟨w.g,w.e,s⟩ else w
theorem aaw (d:Int × Int) (s:Int) (w:Wn):(oq d s w).e=w.e:=by unfold oq;split <;> rfl
theorem a0d (d:Int × Int) (s:Int) (w:Wn):(oq d s w).g=w.g:=by unfold oq;split <;> rfl
theorem avb (d:Int × Int) (s:Int) (a c:Wn):HOrd.lt (oq d s a) (oq d s c)=HOrd.lt a c:=by rw [aqw,aqw,aaw,aaw]
theorem avc (d:Int × Int) (s:Int) (w:Wn):nW (oq d s w)=oq d s (nW w):=by
 unfold oq
 by_cases h:dotW w=d
 ·rw [if_pos h,if_pos (show dotW (nW w)=d from h)];rfl
 ·rw [if_neg h,if_neg (show dotW (nW w)≠d from h)]
theorem alx {L:List Wn} {d:Int × Int} {s:Int} (h:L.Pairwise leG):(L.map (oq d s)).Pairwise leG:=by
 rw [List.pairwise_map]
 refine h.imp fun {a c} hac=> ?_
 unfold leG at hac ⊢;rw [avb];exact hac
theorem aw7 (L:List Wn) (d:Int × Int) (s:Int):(L.map (oq d s)).map dotW=L.map dotW:=by
 rw [List.map_map]
 refine List.map_congr_left fun w _=> ?_
 show ((oq d s w).e.r,(oq d s w).e.n)=_
 rw [aaw]
def pv (d:Int × Int) (L:List Wn):List Wn:=L.filter fun w=>decide (dotW w≠d)
theorem acr {d:Int × Int} {L:List Wn} {w:Wn}:w∈pv d L↔w∈L∧dotW w≠d:=by simp [pv]
theorem amu {d:Int × Int} {L:List Wn} (h:∀ x∈L,dotW x≠d):pv d L=L:=by
 unfold pv;rw [List.filter_eq_self];intro a ha;simpa using h a ha
theorem ato {d:Int × Int} {a:List Wn} {x:Wn} {c:List Wn} (hx:dotW x=d) (hnd:((a++x::c).map dotW).Nodup):pv d (a++x::c)=a++c:=by
 have h1:∀ y∈a++c,dotW y≠d:=by
  intro y hy hc
  have hp:(a++x::c).Perm (x::(a++c)):=List.perm_middle
  have:=(hp.map dotW).nodup_iff.1 hnd
  simp only [List.map_cons,List.nodup_cons] at this
  exact this.1 (List.mem_map.2 ⟨y,hy,hc.trans hx.symm⟩)
 have e1:=amu (fun y hy=>h1 y (List.mem_append_left c hy))
 have e2:=amu (fun y hy=>h1 y (List.mem_append_right a hy))
 unfold pv at *
 rw [List.filter_append,e1,List.filter_cons_of_neg (by simp [hx]),e2]
structure QI (n:Nat) (V:List Int) (L:List Wn):Prop where
 n1:1≤n
 n2:n≤16
 len:V.length=n
 num:uv V
 nd:(L.map dotW).Nodup
 fit:∀ w∈L,s7 n w.e w.src=true
 new:∀ w∈L,u5 V w.e.r w.e.n=false
 ew:∀ w∈L,EW w.e
 rf:∀ w∈L,w.e.refs.length≤1000000
 many:L.length≤100000
 nrm:∀ w∈L,nW w=w
 so:L.Pairwise leG
theorem QI.i32 {n:Nat} {V:List Int} {L:List Wn} (hq:QI n V L):∀ w∈L,w.e.id.length=32:=fun w hw=>(hq.ew w hw).l32
structure HI (L R H:List Wn):Prop where
 perm:R.Perm H
 hp:hpG R.length R
 pm:L.Perm (H.map nW)
section
variable {n:Nat} {V:List Int} {L R H:List Wn} (hq:QI n V L) (hi:HI L R H)
include hi in
theorem HI.mem {w:Wn} (h:w∈H):nW w∈L:=hi.pm.symm.subset (List.mem_map.2 ⟨w,h,rfl⟩)
include hi in
theorem HI.sub:∀ e∈R,e∈H:=fun _ h=>hi.perm.subset h
include hq hi in
theorem HI.h32:∀ e∈H,e.e.id.length=32:=fun e h=>hq.i32 (nW e) (hi.mem h)
include hq hi in
theorem HI.nd:(H.map dotW).Nodup:=by
 have h1:=hi.pm.map dotW
 rw [List.map_map] at h1
 exact h1.nodup_iff.1 hq.nd
include hi in
theorem HI.len:R.length=L.length∧H.length=L.length:=by
 have h1:=hi.perm.length_eq
 have h2:=hi.pm.length_eq
 rw [List.length_map] at h2
 omega
theorem a3n {d:Int × Int}:(∀ w∈H,dotW w≠d)→ow d (wM H)=none:=by
 induction H with
 | nil => intro _; rfl
 | cons e l ih =>
  intro h
  simp only [wM,ow]
  rw [if_neg (h e List.mem_cons_self)]
  exact ih fun w hw=>h w (List.mem_cons_of_mem _ hw)
theorem aor {d:Int × Int}:(∃ w∈H,dotW w=d)→∃ w∈H,dotW w=d∧ow d (wM H)=some (.pointer (some ⟨w.g,0,none⟩)):=by
 induction H with
 | nil => rintro ⟨w, hw, _⟩; simp at hw
 | cons e l ih =>
  rintro ⟨w,hw,hd⟩
  simp only [wM,ow]
  by_cases he:dotW e=d
  ·exact ⟨e,List.mem_cons_self,he,if_pos he⟩
  ·rw [if_neg he]
   have:∃ w∈l,dotW w=d:=by
    rcases List.mem_cons.1 hw with rfl | hw
    ·exact absurd hd he
    ·exact ⟨w,hw,hd⟩
   obtain ⟨w',h1,h2,h3⟩:=ih this
   exact ⟨w',List.mem_cons_of_mem _ h1,h2,h3⟩
include hi in
theorem HI.miss {d:Int × Int} (h:jc d L=none):ow d (wM H)=none :=
 a3n fun w hw=>ae0 h (nW w) (hi.mem hw)
include hq hi in
theorem HI.hit {d:Int × Int} {x:Wn} (h:jc d L=some x):∃ w∈H,dotW w=d∧nW w=x∧ow d (wM H)=some (.pointer (some ⟨w.g,0,none⟩)):=by
 obtain ⟨h1,h2⟩:=fg h
 obtain ⟨w0,hw0,he0⟩:=List.mem_map.1 (hi.pm.subset h1)
 obtain ⟨w,hw,hd,hg⟩:=aor (H:=H) (d:=d) ⟨w0,hw0,by rw [← h2,← he0];rfl⟩
 exact ⟨w,hw,hd,af4 hq.nd (hi.mem hw) h1 (show dotW w=_ by rw [hd,h2]),hg⟩
include hq in
theorem QI.dotOk {w:Wn} (h:w∈L):Go.Proofs.YtdmfcnjgdicncaaGreat.j8 (dotW w):=by
 have:=of_decide_eq_true (hq.fit w h)
 have h2:=hq.n2
 exact ⟨(ahs _).2 (by show I64 w.e.r;unfold I64;omega),(ahs _).2 (by show I64 w.e.n;unfold I64;omega)⟩
end

def que (gq n:Nat) (V:List Int) (L:List Wn):SP :=
 exP (S:=Nat × Value × Value × List Wn × List Wn) (fun s=>QI n V L∧HI L s.2.2.2.1 s.2.2.2.2) fun s=>stH gq s.1 s.2.1 V s.2.2.1 s.2.2.2.1 s.2.2.2.2 []
def af5 (V:List Int) (L:List Wn) (e:Ev) (s:Int):Bool:=s7 V.length e s && !u5 V e.r e.n&&(jc (e.r,e.n) L).isNone&&decide (L.length<64)
def af6 (V:List Int) (L:List Wn) (e:Ev) (s:Int):Int:=if s7 V.length e s=false then 2 else if u5 V e.r e.n=true∨(jc (e.r,e.n) L).isSome then 0 else if 64≤L.length then 10 else 0
def xw (V:List Int) (L:List Wn) (e:Ev) (s:Int):List Wn :=
 if s7 V.length e s=false∨u5 V e.r e.n=true then L else if (jc (e.r,e.n) L).isSome then L.map (oq (e.r,e.n) s) else if 64≤L.length then L else ae1 (nW ⟨0,e,s⟩) L
section
variable {n:Nat} {V:List Int} {L R H:List Wn}
theorem a3o {f:Wn→Wn} (hf:∀ a c,HOrd.lt (f a) (f c)=HOrd.lt a c) (h:hpG R.length R):hpG (R.map f).length (R.map f):=by
 intro i h0 hi
 rw [List.length_map] at hi
 have:=h i h0 hi
 have hx:∀ k,k<R.length→(R.map f).getD k HOrd.d=f (R.getD k HOrd.d):=fun k hk=>by
  rw [List.getD_eq_getElem?_getD,List.getD_eq_getElem?_getD,List.getElem?_map,List.getElem?_eq_getElem hk];rfl
 unfold leG atG at this ⊢
 rw [hx _ hi,hx _ (by omega),hf];exact this
theorem QI.setS (hq:QI n V L) {e:Ev} {s:Int} (hf:s7 n e s=true):QI n V (L.map (oq (e.r,e.n) s)) where
 n1:=hq.n1
 n2:=hq.n2
 len:=hq.len
 num:=hq.num
 nd:=by rw [aw7];exact hq.nd
 fit:=fun w hw=>by
  obtain ⟨x,hx,rfl⟩:=List.mem_map.1 hw
  have h1:=hq.fit x hx
  unfold YtdmfcnjgdicncaaGreat.oq
  split
  ·have h2:=of_decide_eq_true h1
   have h3:=of_decide_eq_true hf
   exact decide_eq_true ⟨h3.1,h3.2.1,h2.2.2⟩
  ·exact h1
 new:=fun w hw=>by
  obtain ⟨x,hx,rfl⟩:=List.mem_map.1 hw
  rw [aaw];exact hq.new x hx
 ew:=fun w hw=>by
  obtain ⟨x,hx,rfl⟩:=List.mem_map.1 hw
  rw [aaw];exact hq.ew x hx
 rf:=fun w hw=>by
  obtain ⟨x,hx,rfl⟩:=List.mem_map.1 hw
  rw [aaw];exact hq.rf x hx
 many:=by rw [List.length_map];exact hq.many
 nrm:=fun w hw=>by
  obtain ⟨x,hx,rfl⟩:=List.mem_map.1 hw
  rw [avc,hq.nrm x hx]
 so:=alx hq.so
theorem HI.setS (hi:HI L R H) (d:Int × Int) (s:Int):HI (L.map (oq d s)) (R.map (oq d s)) (H.map (oq d s)) where
 perm:=hi.perm.map _
 hp:=a3o (avb d s) hi.hp
 pm:=by
  rw [List.map_map]
  have h1:=hi.pm.map (YtdmfcnjgdicncaaGreat.oq d s)
  rw [List.map_map] at h1
  refine h1.trans <| .of_eq <| List.map_congr_left fun w _=> ?_
  exact (avc d s w).symm
theorem QI.ins (hq:QI n V L) {e:Ev} {s:Int} (hf:s7 n e s=true) (hh:u5 V e.r e.n=false) (hn:jc (e.r,e.n) L=none) (hew:EW e) (hl:e.refs.length≤1000000) (hm:L.length<64):QI n V (ae1 (nW ⟨0,e,s⟩) L):=by
 have hp:=wj (nW ⟨0,e,s⟩) L
 have hall:∀ {p:Wn→Prop},(∀ w∈L,p w)→p (nW ⟨0,e,s⟩)→∀ w∈ae1 (nW ⟨0,e,s⟩) L,p w:=fun h1 h2 w hw=>by
  rcases List.mem_cons.1 (hp.subset hw) with rfl | h
  ·exact h2
  ·exact h1 w h
 exact {
  n1:=hq.n1
  n2:=hq.n2
  len:=hq.len
  num:=hq.num
  nd:=(hp.map dotW).nodup_iff.2 (by
   rw [List.map_cons,List.nodup_cons]
   refine ⟨fun hc=> ?_,hq.nd⟩
   obtain ⟨x,hx,he⟩:=List.mem_map.1 hc
   exact ae0 hn x hx he)
  fit:=hall hq.fit hf
  new:=hall hq.new hh
  ew:=hall hq.ew (hew.own nS nS)
  rf:=hall hq.rf hl
  many:=by rw [hp.length_eq,List.length_cons];omega
  nrm:=hall hq.nrm Z
  so:=aq9 hq.so}
theorem a3p (d:Int × Int) (s:Int):wM (H.map (oq d s))=wM H:=by
 induction H with
 | nil => rfl
 | cons e l ih => simp only [List.map_cons, wM, ih, aaw, a0d]
theorem aw8 (d:Int × Int) (s:Int):n8 (R.map (oq d s))=n8 R:=by
 rw [n8,List.map_map]
 refine List.map_congr_left fun w _=> ?_
 simp [a0d]
theorem af7 {d:Int × Int} {s:Int} (h:∀ w∈H,dotW w≠d):H.map (oq d s)=H:=by
 have:H.map (oq d s)=H.map id:=List.map_congr_left fun w hw=>if_neg (h w hw)
 rw [this,List.map_id]
end
section
variable {b:World} {F:List SP} {gq n:Nat} {V:List Int} {L:List Wn} {e:Ev} {s:Int}
set_option maxRecDepth 20000 in
set_option maxHeartbeats 4000000 in
theorem bdu (he:∀ w,Sat b F w→VL (Value.int .i64) w e.dv e.deps) (hr:∀ w,Sat b F w→SL w 32 e.rv e.refs.length (et e.refs)) (hd:e.deps.length≤1000000) (hl:e.refs.length≤1000000) (hew:EW e) :
  SC Tryz.prog aeq [.pointer (some ⟨gq,0,none⟩),evV e,.int .i64 s] b (que gq n V L::F) (fun v F'=>v = .tuple ⟨[.bool (af5 V L e s),.int .i64 (af6 V L e s)]⟩∧F'=que gq n V (xw V L e s)::F):=by
 refine SC.opn ?_
 rintro ⟨gm,v,h,R,H⟩ ⟨hq,hi⟩
 dsimp only at hi
 show SC _ _ _ _ (stH gq gm v V h R H F) _
 refine SC.out (R:=fun u F'=>u = .tuple ⟨[.bool (af5 V L e s),.int .i64 (af6 V L e s)]⟩∧∃ h' R' H',F'=stH gq gm v V h' R' H' F∧QI n V (xw V L e s)∧HI (xw V L e s) R' H') ?_ (by
  rintro u _ ⟨h1,h',R',H',rfl,hq',hi'⟩
  exact ⟨_,ib (G:=fun s=>stH gq s.1 s.2.1 V s.2.2.1 s.2.2.2.1 s.2.2.2.2 []) (gm,v,h',R',H') ⟨hq',hi'⟩,h1,rfl⟩)
 have hlen:=hi.len
 have hmany:=hq.many
 have hVl:=hq.len
 have h32:=hew.l32
 refine bf Tryz.func69 Z Z Z <| bd4 <| cq Z Z Z Z Z fun g4=>bgi Z Z <| bd3 <| ae <| ar <| bd4 <| af Z <| bh Z Z Z ((ag7 (F:=pt g4 bo (evC e)::F)).at (ac 6 [1,2,3,4,5,0] Z Z) (ac 6 [5,0,1,2,3,4] Z Z)) <| af Z <| bd3 <| al Z <| bd4 <| af Z ?_
 refine dk 0 Z Z Z Z Z Z (fd (by rw [cu h32];rfl)) Z ?_
 refine af Z <| bh Z Z Z ((a7j (F:=pt g4 bo (evC e)::F) (up he (ac 6 [] Z Z)) hd).at (ac 6 [1,2,3,4,5,0] Z Z) (ac 6 [5,0,1,2,3,4] Z Z)) ?_
 by_cases hf:s7 V.length e s=true
 rotate_left
 ·have hf':s7 V.length e s=false:=by simpa using hf
  refine a9 17 (.bool false) Z (congrArg Value.bool hf') <| bgi Z Z <| bd3 <| aq Z <| bd4 <| bgi Z Z <| bd3 <| aj <| ap <| ag <| ai Z (.tmp Z (.tmp Z .nil)) (ac 6 [1,2,3,4,5] Z Z) ?_
  refine ⟨?_,h,R,H,rfl,?_⟩
  ·rw [af5,af6,hf'];rfl
  ·rw [xw,if_pos (.inl hf')];exact ⟨hq,hi⟩
 refine a9 17 (.bool true) Z (congrArg Value.bool hf) <| bgi Z Z <| bd3 <| al Z <| ae <| b7 flo _ (by decide +kernel) (Ent.refl _) <| ay Z Zl <| ay Z Zl <| ay Z Zl <| de 1 Z Z Z Z <| ay Z Zl <| de 0 Z Z Z Z <| cz Z Z Z Z (SC.ofExt fun w H=>adz (vlZ (k:=2) Z w H)) (Ent.refl _) <| ay Z Zl <| az ?_
 cases hh:u5 V e.r e.n with
 | true =>
  refine aa <| aq Z <| bd4 <| bgi Z Z <| bd3 <| aj <| ap <| ag <| ai Z (.tmp Z (.tmp Z .nil)) (ac 6 [1,2,3,4,5] Z Z) ?_
  refine ⟨?_,h,R,H,rfl,?_⟩
  ·rw [af5,af6,hf,hh];rfl
  ·rw [xw,if_pos (.inr hh)];exact ⟨hq,hi⟩
 | false =>
 have hfn:s7 n e s=true:=hVl▸hf
 have hdok:j8 (e.r,e.n):=by
  have h1:=of_decide_eq_true hf
  have h2:=hq.n2
  exact ⟨(ahs _).2 (by show I64 e.r;unfold I64;omega),(ahs _).2 (by show I64 e.n;unfold I64;omega)⟩
 refine aa <| al Z <| ao <| ba <| aa <| ae <| ae <| b7 flo _ (by decide +kernel) (Ent.refl _) <| ay Z Zl <| ay Z Zl <| ay Z Zl <| de 1 Z Z Z Z <| ay Z Zl <| de 0 Z Z Z Z ?_
 cases hfw:jc (e.r,e.n) L with
 | some x =>
  obtain ⟨w,hw,hwd,hwx,hwg⟩:=hi.hit hq hfw
  refine abl 4 uu hdok hwg Z Z Z Z Z Z Z Z Z ?_
  (iterate 5 refine ay Z Zl ?_)
  refine az <| aa <| bd4 <| af Z <| bd3 <| aq Z <| bd4 <| bgj Z Z Z <| af Z ?_
  obtain ⟨l1,l2,hH⟩:=List.append_of_mem hw
  have hnd:=hi.nd hq
  have hw32:=hi.h32 hq w hw
  refine fq (ac 6 [5,0,1,2,3,4] Z Z) ?_
  refine fq (tz (A:=wF H) (B:=wP w) (C:=wF (l1++l2)) (by rw [hH];exact akg)) ?_
  refine ae8 0 Z Z Z Z Z Z Z Z (amj hw32) Z ?_
  have hH':H.map (oq (e.r,e.n) s)=l1++(⟨w.g,w.e,s⟩:Wn)::l2:=by
   rw [hH]
   rw [hH] at hnd
   have hp:(l1++w::l2).Perm (w::(l1++l2)):=List.perm_middle
   have hnd':=(hp.map dotW).nodup_iff.1 hnd
   simp only [List.map_cons,List.nodup_cons] at hnd'
   have h1:∀ y∈l1++l2,dotW y≠(e.r,e.n):=fun y hy hc=>hnd'.1 (List.mem_map.2 ⟨y,hy,hc.trans hwd.symm⟩)
   rw [List.map_append,List.map_cons,af7 fun y hy=>h1 y (List.mem_append_left _ hy),af7 fun y hy=>h1 y (List.mem_append_right _ hy)]
   congr 2
   exact if_pos hwd
  refine fq (ql (A:=wF (H.map (oq (e.r,e.n) s))) (B:=wP ⟨w.g,w.e,s⟩) (C:=wF (l1++l2)) (by rw [hH'];exact akg)) ?_
  refine a8r <| bgi Z Z <| bd3 <| aj <| ag <| ai Z (.tmp Z (.tmp Z .nil)) (ac 6 [2,3,4,5,0] Z Z) ?_
  refine ⟨?_,h,R.map (oq (e.r,e.n) s),H.map (oq (e.r,e.n) s),?_,?_,?_⟩
  ·rw [af5,af6,hf,hh,hfw];rfl
  ·simp only [stH,rP,mpH,a3p,aw8,List.length_map]
  ·rw [xw,hfw,if_neg (by simp [hf,hh])];exact hq.setS hfn
  ·rw [xw,hfw,if_neg (by simp [hf,hh])];exact hi.setS _ _
 | none =>
  refine abk 4 uu hdok (hi.miss hfw) Z Z Z Z Z Z Z Z Z ?_
  (iterate 5 refine ay Z Zl ?_)
  refine az <| aa <| ae <| bt (fun w H=>(H.oat (k:=3) Z).form) ?_
  rintro ⟨A1,c1,rfl,_,_,_⟩
  refine ab <| af Z <| bd3 <| al Z <| ao <| aa <| ae <| bd4 <| bgj Z Z Z <| df 1 Z Z Z <| bgi Z Z <| bd3 ?_
  by_cases hm:64≤L.length
  ·refine cm 47 (.bool true) Z (congrArg Value.bool (decide_eq_true (by omega))) <| aq Z <| bd4 <| bgi Z Z <| bd3 <| aj <| ag <| ai Z (.tmp Z (.tmp Z .nil)) (ac 6 [1,2,3,4,5] Z Z) ?_
   refine ⟨?_,.slice A1 R.length c1,R,H,rfl,?_⟩
   ·have hm':¬ L.length<64:=by omega
    rw [af5,af6,hf,hh,hfw];simp [hm,hm',agn]
   ·rw [xw,hfw,if_neg (by simp [hf,hh]),if_neg (by simp),if_pos hm];exact ⟨hq,hi⟩
  ·refine cm 47 (.bool false) Z (congrArg Value.bool (decide_eq_false (by omega))) <| al Z <| ao <| aa <| bd4 <| af Z ?_
   refine dk 0 Z Z Z Z Z Z (fd (by rw [cu h32];rfl)) Z ?_
   refine af Z <| a2l Z Z Z ⟨cu h32,rfl,trivial⟩ ?_
   have hx:=a7l (b:=b) (F:=pt g4 bo (evC e)::F) (gq:=gq) (gm:=gm) (v:=v) (V:=V) (h:= .slice A1 R.length c1) (R:=R) (H:=H) (e:=e) (s:=s) (hi.h32 hq) hi.sub (by omega) h32 hdok (hi.miss hfw) (up he (ac 1 [] Z Z)) (up hr (ac 1 [] Z Z)) hd hl
   refine bq Z Z Z (hx.ent (ac 6 [1,2,3,4,5,0] Z Z)) ?_
   rintro _ _ ⟨g,dv,rv,h',rfl⟩
   refine a8r <| bgi Z Z <| bd3 <| aj <| ai Z (.tmp Z (.tmp Z .nil)) (ac 6 [0,1,2,3,4] Z Z) ?_
   have hc:xw V L e s=ae1 (nW ⟨0,e,s⟩) L:=by rw [xw,hfw,if_neg (by simp [hf,hh]),if_neg (by simp),if_neg hm]
   refine ⟨?_,h',_,_,rfl,?_,?_⟩
   ·have hm':L.length<64:=by omega
    rw [af5,af6,hf,hh,hfw];simp [hm,hm',agn]
   ·rw [hc];exact hq.ins hfn hh hfw hew hl (by omega)
   ·rw [hc]
    have hup:(upG (R.length+1) (R ++ [(⟨g,e.own dv rv,s⟩:Wn)]) R.length).Perm (R ++ [⟨g,e.own dv rv,s⟩]):=aqv _ _ _ (by simp)
    refine ⟨hup.trans (hi.perm.append_right _),?_,?_⟩
    ·rw [aoh,List.length_append,List.length_singleton];exact azt hi.hp
    ·rw [List.map_append]
     refine (wj _ _).trans ?_
     exact (List.Perm.cons _ hi.pm).trans (List.perm_append_comm (l₁:= [nW ⟨g,e.own dv rv,s⟩]))
end

theorem HI.ord {n:Nat} {V:List Int} {L R H O:List Wn} (hq:QI n V L) (hi:HI L R H) (h1:O.Perm R) (h2:O.Pairwise leG):O.map nW=L:=by
 refine aq8 ?_ hq.so (((h1.trans hi.perm).map nW).trans hi.pm.symm) hq.nd
 rw [List.pairwise_map];exact h2
theorem a0e (V:List Int) (O:List Wn):gn V (O.map nW)=gn V O:=by
 unfold gn
 rw [List.filter_map,List.map_map]
 rfl
section
variable {b:World} {F:List SP} {gq n:Nat} {V:List Int} {L R H:List Wn} {w:Wn}
theorem a0f {k:Nat} (hk:nth F k=some (all (wF H))) (he:w∈H):∀ W,Sat b F W→∀ j,j<(waC w).length→W.cell? ⟨w.g,0+j,none⟩=(waC w)[j]?:=fun W hS j hj=>by
 rw [Nat.zero_add];exact (akh hk he W hS).cell j
theorem af8:SC Tryz.prog sq [.pointer (some ⟨gq,0,none⟩)] b (que gq n V L::F) (fun u F'=>F'=rZ u V::que gq n V L::F):=by
 refine SC.opn ?_
 rintro ⟨gm,v,h,R,H⟩ ⟨hq,hi⟩
 dsimp only at hi
 show SC _ _ _ _ (stH gq gm v V h R H F) _
 refine (az1 (by have:=hq.len;have:=hq.n2;omega)).out ?_
 rintro u _ rfl
 exact ⟨_,ik (ib (G:=fun s=>stH gq s.1 s.2.1 V s.2.2.1 s.2.2.2.1 s.2.2.2.2 []) (gm,v,h,R,H) ⟨hq,hi⟩),rfl⟩
theorem a0g:SC Tryz.prog vf [.pointer (some ⟨gq,0,none⟩)] b (que gq n V L::F) (fun u F'=>∃ A c,u = .slice A (gn V L).length c∧F'=rO A c (gn V L).length (gn V L)::que gq n V L::F):=by
 refine SC.opn ?_
 rintro ⟨gm,v,h,R,H⟩ ⟨hq,hi⟩
 dsimp only at hi
 show SC _ _ _ _ (stH gq gm v V h R H F) _
 have hl:=HI.len hi
 have hm:=hq.many
 refine (a67 (HI.h32 hq hi) (HI.sub hi) hi.hp (by omega)).out ?_
 rintro u _ ⟨O,A,c,h1,h2,h3,rfl⟩
 have e:gn V O=gn V L:=by rw [← a0e,HI.ord hq hi h1 h2]
 rw [e] at h3 ⊢
 exact ⟨_,ik (ib (G:=fun s=>stH gq s.1 s.2.1 V s.2.2.1 s.2.2.2.1 s.2.2.2.2 []) (gm,v,h,R,H) ⟨hq,hi⟩),A,c,h3,rfl⟩
set_option maxRecDepth 20000 in
set_option maxHeartbeats 4000000 in
theorem a7n {gm:Nat} {v h:Value} (hq:QI n V L) (hi:HI L R H):SC Tryz.prog ve [.pointer (some ⟨gq,0,none⟩)] b (stH gq gm v V h R H F) (fun u F'=>∃ D,D.map nW=L∧F'=rWs u D::all (wsF D)::stH gq gm v V h R H F):=by
 have hl:=HI.len hi
 have hm:=hq.many
 refine bf Tryz.func74 Z Z Z <| bd4 <| af Z <| bd3 <| ae <| bd4 <| af Z <| bh Z Z Z (ag7) <| bd3 <| al Z <| ao <| aa <| ae <| bd4 <| bgj Z Z Z <| df 0 Z Z Z <| bq Z Z Z ((aml (F:=pt gq kz [v,h,.map (some gm)]::rZ v V::rP h R::mpH gm H::F) (up (fun w H=>(H.oat (k:=2) Z).sl) (ac 5 [1,2,3,4,0] Z Z)) (HI.h32 hq hi) (HI.sub hi) hi.hp (by omega)).ent (ac 5 [4,0,1,2,3] Z Z)) ?_
 rintro v11 _ ⟨O,hO1,hO2,rfl⟩
 have hord:=HI.ord hq hi hO1 hO2
 refine b9 (fun w H=>(H.oat (k:=0) Z).form) ?_
 rintro ⟨A1,c1,rfl,_,_,k3⟩
 have hOl:=hO1.length_eq
 refine bgi Z Z <| bd3 <| ar ?_
 refine b6 (S:=Nat × List Wn × Nat × Option Addr × Nat) (fun s=> [(0,.pointer (some ⟨gq,0,none⟩)),(2,.slice s.2.2.2.1 s.2.2.1 s.2.2.2.2),(11,.slice A1 O.length c1),(12,.int .i64 O.length),(13,.int .i64 (s.1:Int))])
  (fun s=>rWn s.2.2.2.1 s.2.2.2.2 s.2.2.1 s.2.1::all (wsF s.2.1)::rW A1 c1 O.length O::stH gq gm v V h R H F) (fun s=>s.1≤O.length∧s.2.1.map nW=(O.take s.1).map nW∧s.2.1.length=s.2.2.1) (fun s=>O.length - s.1) (0,[],0,none,0) ⟨rfl,rfl,rfl,rfl,rfl,trivial⟩ ?_ ⟨Nat.zero_le _,rfl,rfl⟩ ?_
 ·exact ((ji (G:= [])).trans (eh b8 40 Z)).trans (ac 8 [0,1,2,4,5,6,7,3] Z Z)
 rintro ⟨i,D,o,A,c⟩ ⟨hi1,hD,ho⟩
 dsimp only at hi1 hD ho ⊢
 have hDl:D.length=i:=by have:=congrArg List.length hD;rw [List.length_map,List.length_map,List.length_take] at this;omega
 refine bd4 <| af Z <| bd3 <| ae ?_
 refine di Z (fun h1=> ?_) (fun h1=> ?_)
 ·have h1':i<O.length:=by omega
  obtain ⟨gg,oo,rfl⟩:=k3 (by omega)
  have hmem:O[i]∈H:=HI.sub hi _ (hO1.subset (List.getElem_mem h1'))
  have ci:(n8 O)[i]? = some (.pointer (some ⟨O[i].g,0,none⟩)):=by simp [n8,h1']
  have hsn:(O.take (i+1)).map nW=D.map nW ++ [nW O[i]]:=by rw [List.take_succ_eq_append_getElem h1',List.map_append,← hD];rfl
  generalize O[i]=x at *
  have hx32:=HI.h32 hq hi x hmem
  have hxd:x.e.deps.length≤1000000:=by
   have:=of_decide_eq_true (hq.fit _ (hi.mem hmem))
   have h7:x.e.deps.length=n:=this.2.2.2.2.2.2.1
   have:=hq.n2;omega
  have hxl:x.e.refs.length≤1000000:=hq.rf (nW x) (hi.mem hmem)
  refine ao <| aa <| ae <| ar <| bd4 <| b5 Z (by omega) ?_
  refine iu Z (fun w H=>bm Z Z Z (by rw [bi,Int.toNat_natCast,Nat.mul_one];exact nq (k:=2) Z ci w H)) Z ?_
  refine af Z <| bd3 <| ab <| bgj Z Z Z <| iu Z (fun w H=>cn (cs:=waC x) Z Z Z (ec hx32) (a0f (k:=7) Z hmem w H)) Z <| bq Z Z Z (azn hx32 (amk (k:=7) Z hmem) (azv (k:=7) Z hmem) hxd hxl) ?_
  rintro _ _ ⟨dv,rv,rfl,rfl⟩
  refine b9 (fun w H=>(H.oat (k:=0) Z).form) ?_
  rintro ⟨A2,c2,rfl,_,_,_⟩
  refine b9 (fun w H=>(H.oat (k:=1) Z).form) ?_
  rintro ⟨A3,c3,rfl,_,_,_⟩
  generalize hye:x.e.own (.slice A2 x.e.deps.length c2) (.slice A3 x.e.refs.length c3)=ye
  have hy32:ye.id.length=32:=by rw [← hye];exact hx32
  have hyone:∀ u∈wsC ye x.src,u.oneCell'=true:=ng (by rw [← hye];rfl) (by rw [← hye];rfl)
  refine ky Z Z Z Z Z Z Z (ec hy32) (by decide) fun gl=> ?_
  refine dx 3 Z Z Z Z Z Z Z Z Z (m:=1) (news:=wsC ye x.src) (fun w H=>(H.blk (k:=0) Z).sl (by rw [ec hy32]) (by decide)) hyone (by omega) (fun _=>rfl) fun v8=> ?_
  refine b9 (fun w H=>(H.oat (k:=3) Z).form) ?_
  rintro ⟨A7,c7,rfl,_,_,_⟩
  refine af Z <| ad <| ba <| aa <| ab <| b5 Z (by (unfold I64;omega)) <| af Z <| ad ?_
  have hnx:nW ⟨0,ye,x.src⟩=nW x:=by rw [← hye];rfl
  refine lv (G:=wsP ⟨0,ye,x.src⟩++(all (wsF D)::rWn A7 c7 (o+1) (D ++ [⟨0,ye,x.src⟩])::rW (some ⟨gg,oo,none⟩) c1 O.length O::stH gq gm v V h R H F)) ?_ ?_
  ·have e1:rWn A7 c7 (o+1) (D ++ [⟨0,ye,x.src⟩])=row b8 40 (.slice A7 (o+1) c7) (o+1) (afx D++wsC ye x.src):=by
    simp only [rWn,mo,flC,List.append_nil]
   rw [e1]
   subst hye
   exact ac 10 [1,2,4,3,5,6,7,8,9] Z Z
  refine lv (ql (A:=wsF (D ++ [⟨0,ye,x.src⟩])) aq0) ?_
  refine bj (i+1,D ++ [⟨0,ye,x.src⟩],o+1,A7,c7) ⟨rfl,rfl,rfl,rfl,rfl,trivial⟩ (ac 3 [1,0,2] Z Z) ⟨h1',by dsimp only;rw [hsn,List.map_append];simp [hnx],by simp [ho]⟩ (by dsimp only;omega)
 ·refine bu <| av <| ax <| au <| aa <| bd4 <| bgi Z Z <| bd3 <| aj ?_
  obtain rfl:i=O.length:=by omega
  rw [List.take_length,hord] at hD
  subst ho
  refine ai Z (.tmp Z .nil) (ac 8 [0,1,3,4,5,6,7] Z Z) ?_
  exact ⟨D,hD,rfl⟩
theorem a0h:SC Tryz.prog ve [.pointer (some ⟨gq,0,none⟩)] b (que gq n V L::F) (fun u F'=>∃ D,D.map nW=L∧F'=rWs u D::all (wsF D)::que gq n V L::F):=by
 refine SC.opn ?_
 rintro ⟨gm,v,h,R,H⟩ ⟨hq,hi⟩
 dsimp only at hi
 refine (a7n hq hi).out ?_
 rintro u _ ⟨D,hD,rfl⟩
 exact ⟨_,ik (ik (ib (G:=fun s=>stH gq s.1 s.2.1 V s.2.2.1 s.2.2.2.1 s.2.2.2.2 []) (gm,v,h,R,H) ⟨hq,hi⟩)),D,hD,rfl⟩
set_option maxRecDepth 20000 in
set_option maxHeartbeats 4000000 in
theorem a3q {gm:Nat} {v h:Value} {d:Int × Int} (hd:j8 d) (hq:QI n V L) (hi:HI L R H):SC Tryz.prog o4 [.pointer (some ⟨gq,0,none⟩),ry d] b (stH gq gm v V h R H F) (fun u F' =>
  (jc d L=none∧u = .tuple ⟨[.agg ⟨wsC ev0 0⟩,.bool false]⟩∧F'=stH gq gm v V h R H F)∨∃ x dv rv,jc d L=some x∧u = .tuple ⟨[.agg ⟨wsC (x.e.own dv rv) x.src⟩,.bool true]⟩∧F'=rZ dv x.e.deps::rD rv x.e.refs::stH gq gm v V h R H F):=by
 refine bf Tryz.func59 Z Z Z <| bd4 <| cq Z Z Z Z Z fun g3=> ?_
 skip
 refine ek Z Z Z Z Z fun g4=>fq (ac 7 [2,3,4,5,6,0,1] Z Z) <| af Z <| bd3 <| ae <| bd4 <| af Z <| bh Z Z Z (ag7) <| bd3 <| al Z <| ao <| aa <| ae <| b7 flo _ (by decide +kernel) (Ent.refl _) <| ay Z Zl <| ay Z Zl <| ay Z Zl <| de 0 Z Z Z Z <| de 6 Z Z Z Z ?_
 cases hfw:jc d L with
 | none =>
  refine abk 3 uu hd (hi.miss hfw) Z Z Z Z Z Z Z Z Z ?_
  (iterate 5 refine ay Z Zl ?_)
  refine az <| aa <| ae <| bd4 <| bgi Z Z <| bd3 <| aq Z <| bd4 <| af Z <| iv 5 Z Z Z Z <| af Z <| bd3 <| aj <| ag <| ai Z (.agg 5 Z Z Z Z Z (.tmp Z .nil)) (ac 7 [0,1,2,3,4] Z Z) ?_
  exact .inl ⟨rfl,rfl,rfl⟩
 | some x =>
  obtain ⟨w,hw,hwd,hwx,hwg⟩:=hi.hit hq hfw
  have hx32:=HI.h32 hq hi w hw
  have hxd:w.e.deps.length≤1000000:=by
   have:=of_decide_eq_true (hq.fit _ (hi.mem hw))
   have h7:w.e.deps.length=n:=this.2.2.2.2.2.2.1
   have:=hq.n2;omega
  have hxl:w.e.refs.length≤1000000:=hq.rf (nW w) (hi.mem hw)
  refine abl 3 uu hd hwg Z Z Z Z Z Z Z Z Z ?_
  (iterate 5 refine ay Z Zl ?_)
  refine az <| aa <| ae <| bd4 <| bgi Z Z <| bd3 <| al Z <| ao <| aa <| bd4 <| bgi Z Z <| iu Z (fun w' H=>cn (cs:=waC w) Z Z Z (ec hx32) (a0f (k:=4) Z hw w' H)) Z <| bq Z Z Z (azn hx32 (amk (k:=4) Z hw) (azv (k:=4) Z hw) hxd hxl) ?_
  rintro _ _ ⟨dv,rv,rfl,rfl⟩
  refine b9 (fun w H=>(H.oat (k:=0) Z).form) ?_
  rintro ⟨A2,c2,rfl,_,_,_⟩
  refine b9 (fun w H=>(H.oat (k:=1) Z).form) ?_
  rintro ⟨A3,c3,rfl,_,_,_⟩
  have hy32:(w.e.own (.slice A2 w.e.deps.length c2) (.slice A3 w.e.refs.length c3)).id.length=32:=hx32
  have hyone:∀ u∈wsC (w.e.own (.slice A2 w.e.deps.length c2) (.slice A3 w.e.refs.length c3)) w.src,u.oneCell'=true:=ng Z Z
  refine im 7 Z Z Z Z Z Z Z (ec hy32) hyone (by rw [ec hy32];rfl) ?_
  refine af Z <| bd3 <| aj ?_
  refine ai Z (.whole 7 Z Z Z Z (by rw [ec hy32];rfl) (.tmp Z .nil)) (ac 9 [0,1,2,3,4,5,6] Z Z) ?_
  subst hwx
  exact .inr ⟨_,_,_,rfl,rfl,rfl⟩
theorem a3r {d:Int × Int} (hd:j8 d):SC Tryz.prog o4 [.pointer (some ⟨gq,0,none⟩),ry d] b (que gq n V L::F) (fun u F' =>
  (jc d L=none∧u = .tuple ⟨[.agg ⟨wsC ev0 0⟩,.bool false]⟩∧F'=que gq n V L::F)∨∃ x dv rv,jc d L=some x∧u = .tuple ⟨[.agg ⟨wsC (x.e.own dv rv) x.src⟩,.bool true]⟩∧F'=rZ dv x.e.deps::rD rv x.e.refs::que gq n V L::F):=by
 refine SC.opn ?_
 rintro ⟨gm,v,h,R,H⟩ ⟨hq,hi⟩
 dsimp only at hi
 refine (a3q hd hq hi).out ?_
 have hp:=ib (G:=fun s:Nat × Value × Value × List Wn × List Wn=>stH gq s.1 s.2.1 V s.2.2.1 s.2.2.2.1 s.2.2.2.2 []) (p:=fun s=>QI n V L∧HI L s.2.2.2.1 s.2.2.2.2) (F:=F) (gm,v,h,R,H) ⟨hq,hi⟩
 rintro u _ (⟨h1,h2,rfl⟩ | ⟨x,dv,rv,h1,h2,rfl⟩)
 ·exact ⟨_,hp,.inl ⟨h1,h2,rfl⟩⟩
 ·exact ⟨_,ik (ik hp),.inr ⟨x,dv,rv,h1,h2,rfl⟩⟩
end

def me (V:List Int) (r m:Int):List Int:=V.set (r - 1).toNat m
theorem a0i {V:List Int} {r m:Int} (h1:1≤r) (h2:r≤V.length) (i:Nat):nn (me V r m) i=if i=(r - 1).toNat then max m 0 else nn V i:=by
 unfold nn me
 rw [List.getD_eq_getElem?_getD,List.getElem?_set]
 by_cases h:(r - 1).toNat=i
 ·rw [if_pos h,if_pos h.symm,if_pos (by omega)];rfl
 ·rw [if_neg h,if_neg (fun e=>h e.symm),← List.getD_eq_getElem?_getD]
theorem a3s {V:List Int} {r m:Int} (h1:1≤r) (h2:r≤V.length) (h3:0≤m) (q:Int):atL (me V r m) q=if q=r then m else atL V q:=by
 have hl:(me V r m).length=V.length:=by simp [me]
 unfold atL
 rw [hl]
 by_cases h:q=r
 ·subst h
  rw [if_pos ⟨h1,h2⟩,if_pos rfl,a0i h1 h2,if_pos rfl];omega
 ·rw [if_neg h]
  split
  ·rw [a0i h1 h2,if_neg (by omega)]
  ·rfl
theorem amv {V:List Int} {r m:Int} (hV:uv V) (h0:V.length≤16) (h1:1≤r) (h2:r≤V.length) (h3:1≤m) (h4:atL V r<m):afm V r m=me V r m:=by
 have hol:(ag0 r m).length=r.toNat:=by simp [ag0]
 have hw:afm V r m=joinL V (ag0 r m):=by
  rw [afm,if_neg (by omega)]
 rw [hw]
 apply List.ext_getElem
 ·simp only [acb,List.length_map,List.length_range,me,List.length_set];omega
 ·intro i hi1 hi2
  have hiV:i<V.length:=by simpa [me] using hi2
  have hvi:=hV _ (List.getElem_mem hiV)
  have e1:(joinL V (ag0 r m))[i]=max (nn V i) (nn (ag0 r m) i):=by simp [acb]
  have hv:nn V i=V[i]:=by rw [ay3 hiV];omega
  rw [e1,hv]
  have ha:(me V r m)[i]=if (r - 1).toNat=i then m else V[i]:=by simp only [me,List.getElem_set]
  rw [ha]
  by_cases h:(r - 1).toNat=i
  ·rw [if_pos h]
   have hat:atL V r=V[i]:=by
    rw [atL,if_pos ⟨h1,h2⟩,h,hv]
   have ho:nn (ag0 r m) i=m:=by
    unfold nn ag0
    rw [List.getD_eq_getElem?_getD,List.getElem?_set,if_pos h,if_pos (by rw [List.length_replicate];omega)]
    show max m 0=m
    omega
   rw [ho];omega
  ·rw [if_neg h]
   have ho:nn (ag0 r m) i=0:=by
    unfold nn ag0
    rw [List.getD_eq_getElem?_getD,List.getElem?_set,if_neg h,List.getElem?_replicate]
    split <;> rfl
   rw [ho];omega
theorem QI.adv {n:Nat} {V:List Int} {L L':List Wn} {r m:Int} (hq:QI n V L) (h1:1≤r) (h2:r≤V.length) (h3:1≤m) (h4:m≤1048576) (hs:L'.Sublist L) (hn:∀ w∈L',w.e.r=r→m<w.e.n):QI n (me V r m) L' where
 n1:=hq.n1
 n2:=hq.n2
 len:=by simp [me,hq.len]
 num:=fun x hx=>by
  rcases List.mem_or_eq_of_mem_set hx with h | rfl
  ·exact hq.num x h
  ·omega
 nd:=(hs.map dotW).nodup hq.nd
 fit:=fun w hw=>hq.fit w (hs.subset hw)
 new:=fun w hw=>by
  have h5:=hq.new w (hs.subset hw)
  have h6:=of_decide_eq_true (hq.fit w (hs.subset hw))
  have h7:1≤w.e.r∧1≤w.e.n:=⟨h6.2.2.1,h6.2.2.2.2.1⟩
  simp only [u5,decide_eq_true h7.1,decide_eq_true h7.2,Bool.true_and,decide_eq_false_iff_not] at h5 ⊢
  rw [a3s h1 h2 (by omega)]
  split
  ·rename_i h;have:=hn w hw h;omega
  ·exact h5
 ew:=fun w hw=>hq.ew w (hs.subset hw)
 rf:=fun w hw=>hq.rf w (hs.subset hw)
 many:=Nat.le_trans hs.length_le hq.many
 nrm:=fun w hw=>hq.nrm w (hs.subset hw)
 so:=hq.so.sublist hs
theorem QI.ripe {n:Nat} {V:List Int} {L:List Wn} {x:Wn} (hq:QI n V L) (hx:x∈L) (hl:qb x.e.deps V=true):1≤x.e.r∧x.e.r≤V.length∧1≤x.e.n∧x.e.n≤1048576∧atL V x.e.r=x.e.n - 1:=by
 have h:=of_decide_eq_true (hq.fit x hx)
 obtain ⟨_,_,h1,h2,h3,h4,h5,_,h7⟩:=h
 have hlen:=hq.len
 refine ⟨h1,by omega,h3,h4,?_⟩
 have h8:=hq.new x hx
 simp only [u5,decide_eq_true h1,decide_eq_true h3,Bool.true_and,decide_eq_false_iff_not] at h8
 have h9:=(aj1 _ _).1 hl (x.e.r - 1).toNat
 have h10:nn x.e.deps (x.e.r - 1).toNat=x.e.n - 1:=by
  unfold nn;rw [h7];omega
 rw [atL,if_pos ⟨h1,by omega⟩] at h8 ⊢
 omega
theorem QI.del {n:Nat} {V:List Int} {L:List Wn} {x:Wn} (hq:QI n V L) (hx:x∈L) (hl:qb x.e.deps V=true):QI n (me V x.e.r x.e.n) (pv (dotW x) L):=by
 obtain ⟨h1,h2,h3,h4,h5⟩:=hq.ripe hx hl
 refine hq.adv h1 h2 h3 h4 List.filter_sublist fun w hw hr=> ?_
 obtain ⟨hw1,hw2⟩:=acr.1 hw
 have h6:=of_decide_eq_true (hq.fit w hw1)
 have h7:1≤w.e.r∧1≤w.e.n:=⟨h6.2.2.1,h6.2.2.2.2.1⟩
 have h8:=hq.new w hw1
 simp only [u5,decide_eq_true h7.1,decide_eq_true h7.2,Bool.true_and,decide_eq_false_iff_not] at h8
 rw [hr] at h8
 have:w.e.n≠x.e.n:=fun hc=>hw2 (by rw [dotW,dotW,hr,hc])
 omega
theorem a3t {d:Int × Int} {a c:List Wn} {x:Wn} (ha:∀ y∈a,dotW y≠d) (hx:dotW x=d):aa4 d (wM (a++x::c))=wM (a++c):=by
 induction a with
 | nil => simp only [List.nil_append, wM, aa4]; rw [if_pos hx]
 | cons y a ih =>
  simp only [List.cons_append,wM,aa4]
  rw [if_neg (ha y List.mem_cons_self),ih fun z hz=>ha z (List.mem_cons_of_mem _ hz)]
theorem bdv {b:World} {F:List SP} {k:Nat} {H l1 l2:List Wn} {w:Wn} (hk:nth F k=some (all (wF H))) (hH:H=l1++w::l2):∀ W,Sat b F W→∀ x∈l1++l2,x.g≠w.g:=fun W hS x hx=>by
 subst hH
 obtain ⟨m1,m2,hm⟩:=List.append_of_mem hx
 obtain ⟨h1,l,hA⟩:=hS.mem.get hk
 have hp:(wF (l1++w::l2)).Perm (wP w++(wP x++wF (m1++m2))):=akg.trans (List.Perm.append_left _ (by rw [hm];exact akg))
 have hS2:Sat b (wP w++(wP x++wF (m1++m2))) W:=⟨hS.os,hS.tape,hS.output,(np hp _ hA).mono l⟩
 exact (hS2.ne (i:=0) (j:=3) Z Z (by decide)).symm
def zn (V:List Int) (L:List Wn) (d:Int × Int):Int:=match jc d L with
 | none => 26
 | some x => if qb x.e.deps V then 0 else 25
section
variable {b:World} {F:List SP} {gq n:Nat} {V:List Int} {L R H:List Wn} {d:Int × Int}
theorem a7o {a:List Wn} {k:Nat} (h:hpG k a) (hk:k≤a.length):hpG (a.take k).length (a.take k):=by
 rw [List.length_take,Nat.min_eq_left hk];exact aqz.2 h
set_option maxRecDepth 20000 in
set_option maxHeartbeats 4000000 in
theorem aw9 {gm:Nat} {v h:Value} (hd:j8 d) (hq:QI n V L) (hi:HI L R H):SC Tryz.prog m7 [.pointer (some ⟨gq,0,none⟩),ry d] b (stH gq gm v V h R H F) (fun u F' =>
  (zn V L d≠0∧u = .tuple ⟨[evV ev0,.int .i64 (zn V L d)]⟩∧F'=stH gq gm v V h R H F) ∨
  ∃ x w v' h' R' H',jc d L=some x∧qb x.e.deps V=true∧nW w=x∧u = .tuple ⟨[evV w.e,.int .i64 0]⟩∧HI (pv d L) R' H'∧F'=rZ w.e.dv w.e.deps::rD w.e.rv w.e.refs::stH gq gm v' (me V d.1 d.2) h' R' H' F):=by
 have hl:=hi.len
 have hm:=hq.many
 refine bf Tryz.func80 Z Z Z <| bd4 <| cq Z Z Z Z Z fun g3=> ?_
 skip
 refine ek Z Z Z Z Z fun g4=>fq (ac 7 [2,3,4,5,6,0,1] Z Z) <| af Z <| bd3 <| ae <| bd4 <| af Z <| bh Z Z Z (ag7) <| bd3 <| al Z <| ao <| aa <| ae <| b7 flo _ (by decide +kernel) (Ent.refl _) <| ay Z Zl <| ay Z Zl <| ay Z Zl <| de 0 Z Z Z Z <| de 6 Z Z Z Z ?_
 cases hfw:jc d L with
 | none =>
  refine abk 3 uu hd (hi.miss hfw) Z Z Z Z Z Z Z Z Z ?_
  (iterate 5 refine ay Z Zl ?_)
  refine az <| aa <| ae <| ar <| bd4 <| bgj Z Z Z <| bd3 <| aq Z <| bd4 <| af Z <| iv 5 Z Z Z Z <| af Z <| bd3 <| aj <| ap <| ag <| ai Z (.agg 5 Z Z Z Z Z (.tmp Z .nil)) (ac 7 [0,1,2,3,4] Z Z) ?_
  have hE:zn V L d=26:=by rw [zn,hfw]
  exact .inl ⟨by rw [hE];decide,by rw [hE];rfl,rfl⟩
 | some x =>
  obtain ⟨w,hw,hwd,hwx,hwg⟩:=hi.hit hq hfw
  refine abl 3 uu hd hwg Z Z Z Z Z Z Z Z Z ?_
  (iterate 5 refine ay Z Zl ?_)
  refine az <| aa <| ae <| ar <| bd4 <| bgj Z Z Z <| bd3 <| al Z <| bd4 <| bgi Z Z <| bh Z Z Z (az2 hw) ?_
  cases hlq:qb w.e.deps V with
  | false =>
   have hE:zn V L d=25:=by
    rw [zn,hfw];show (if qb x.e.deps V=true then _ else _)=_
    rw [if_neg];rw [← hwx];show ¬ qb w.e.deps V=true;rw [hlq];decide
   refine bgi Z Z <| bd3 <| aq Z <| bd4 <| af Z <| iv 5 Z Z Z Z <| af Z <| bd3 <| aj <| ap <| ag <| ai Z (.agg 5 Z Z Z Z Z (.tmp Z .nil)) (ac 7 [0,1,2,3,4] Z Z) ?_
   exact .inl ⟨by rw [hE];decide,by rw [hE];rfl,rfl⟩
  | true =>
  have hxL:=(fg hfw).1
  have hxl:qb x.e.deps V=true:=by rw [← hwx];exact hlq
  have hw32:=hi.h32 hq w hw
  obtain ⟨l1,l2,hH⟩:=List.append_of_mem hw
  have hnd:=hi.nd hq
  have hoff:∀ y∈l1++l2,dotW y≠d:=by
   intro y hy hc
   rw [hH] at hnd
   have hp:(l1++w::l2).Perm (w::(l1++l2)):=List.perm_middle
   have:=(hp.map dotW).nodup_iff.1 hnd
   simp only [List.map_cons,List.nodup_cons] at this
   exact this.1 (List.mem_map.2 ⟨y,hy,hc.trans hwd.symm⟩)
  have hdm:aa4 d (wM H)=wM (l1++l2):=by rw [hH];exact a3t (fun y hy=>hoff y (List.mem_append_left _ hy)) hwd
  refine bgi Z Z <| bd3 <| al Z <| ao <| ba <| aa <| ae <| b7 flo (pt gq kz [v,h,.map (some gm)]::pt g3 t_api_Dot [.int .i64 d.1,.int .i64 d.2]::F) (by decide +kernel) (ac 7 [0,6] Z Z) <| ay Z Zl <| ay Z Zl <| ay Z Zl <| de 0 Z Z Z Z <| de 1 Z Z Z Z <| ayf 3 uu hd Z Z Z Z Z Z Z Z (ac 7 [0,6] Z Z) <| az <| aa <| ae ?_
  rw [hdm]
  refine bt (fun w H=>bdv (k:=4) Z hH w H) fun hgne=>bt (fun w H=>(H.oat (k:=2) Z).form) ?_
  rintro ⟨A1,c1,rfl,_,_,_⟩
  have hwR:w∈R:=hi.perm.symm.subset hw
  refine kt flo 10 _ [] Z (by decide +kernel) (Ent.refl _) ?_
  (iterate 7 refine ay Z Zl ?_)
  refine de 0 Z Z Z Z <| ay Z Zl <| dz Z Z Z Z (a3m (H:=H) (R:=R) (e:=w) (kk:=4) Z hi.sub (fun w H=>(H.oat (k:=2) Z).sl) (by omega) hwR) ?_
  rintro _ _ ⟨⟨i,rfl,hiR,hig⟩,rfl⟩
  refine ⟨Ent.refl _,(az <| ku Z (dw _) ?_)⟩
  obtain ⟨k,hk⟩:∃ k,R.length=k+1:=⟨R.length - 1,by omega⟩
  have hRi:R[i]=w:=by
   have hm1:R[i]∈H:=hi.sub _ (List.getElem_mem hiR)
   rw [hH] at hm1
   rcases List.mem_append.1 hm1 with h1 | h1
   ·exact absurd hig (hgne _ (List.mem_append_left _ h1))
   ·rcases List.mem_cons.1 h1 with h1 | h1
    ·exact h1
    ·exact absurd hig (hgne _ (List.mem_append_right _ h1))
  have hrem:=aws (b:=b) (F:=rZ v V::mp gm ry j8 (wM (l1++l2))::pt g4 bo (evC ev0)::pt g3 t_api_Dot [.int .i64 d.1,.int .i64 d.2]::F) (A:=A1) (c:=c1) (n:=k) (gh:=gq) (t0:=kz) (off:=1) (cs:=fun u=> [v,u,.map (some gm)]) (l:=R) (H:=H) (i:=i) (hcq _ _) (hi.h32 hq) hi.sub hk (by omega) (by omega)
  refine ie (p:=R.length=k+1) (fun _ _=>hk) fun hk'=> ?_
  refine agp (G:=pt gq kz [v,.slice A1 (k+1) c1,.map (some gm)]::rW A1 c1 (k+1) R::all (wF H)::rZ v V::mp gm ry j8 (wM (l1++l2))::pt g4 bo (evC ev0)::pt g3 t_api_Dot [.int .i64 d.1,.int .i64 d.2]::F) (by rw [← hk'];exact ac 7 [0,2,4,1,3,5,6] Z Z) ?_
  refine dz Z Z Z Z hrem ?_
  rintro _ _ ⟨rfl,rfl⟩
  refine ⟨dw _,(az ?_)⟩
  have hR'l:((rc R i k).take k).length=k:=by rw [List.length_take,afw];omega
  have hR'p:((rc R i k).take k ++ [w]).Perm R:=by
   have h1:=aez (m:=rc R i k) (n:=k) (by rw [afw];exact hk)
   rw [a26 hk (by omega),List.getD_eq_getElem?_getD,List.getElem?_eq_getElem hiR,Option.getD_some,hRi] at h1
   rw [← h1];exact awt hk (by omega)
  have hR'h:hpG ((rc R i k).take k).length ((rc R i k).take k):=by
   have h1:=a25 hk (by omega) (by rw [← hk];exact hi.hp) (i:=i)
   exact a7o h1 (by rw [afw];omega)
  generalize hR':(rc R i k).take k=R' at *
  refine aa <| ae <| kt flo 9 _ [] Z (by decide +kernel) (Ent.refl _) <| ay Z Zl <| ay Z Zl <| ay Z Zl <| ay Z Zl <| de 0 Z Z Z Z <| de 6 Z Z Z Z ?_
  refine dz Z Z Z Z (SC.ofMade fun w H=>ag1 (vlZ (k:=3) Z w H) (by have:=hq.len;have:=hq.n2;omega)) ?_
  rintro v2 _ rfl
  refine ⟨ac 1 [] Z rfl,(ie (fun w H=>(H.oat (k:=0) Z).form) ?_)⟩
  rintro ⟨A3,c3,rfl,_,_,_⟩
  refine ay Z Zl <| ay Z Zl <| az <| ku Z (dw _) ?_
  skip
  refine ug 1 Z Z Z Z Z Z Z Z Z Z Z (dw _) <| az <| aa <| bd4 <| bgj Z Z Z ?_
  refine iu Z (fun w' H=>cn (cs:=evC w.e) Z Z Z (cu hw32) (fun j hj=>by rw [Nat.zero_add];exact azx (k:=3) Z hw w' H j hj)) Z ?_
  refine b9 (fun w' H=>(amk (k:=3) Z hw w' H).form) ?_
  rintro ⟨A5,c5,hdv,_,_,_⟩
  refine b9 (fun w' H=>du (azv (k:=3) Z hw w' H)) ?_
  rintro ⟨A6,c6,hrv,_,_,_⟩
  refine im 6 Z Z Z Z Z Z Z (cu hw32) (kj (by rw [hdv];rfl) (by rw [hrv];rfl)) (by rw [cu hw32];rfl) ?_
  refine af Z <| bd3 <| aj ?_
  obtain ⟨h1,h2,h3,h4,h5⟩:=hq.ripe hxL hxl
  have hdx:d=(x.e.r,x.e.n):=(fg hfw).2.symm
  have hwl:afm V d.1 d.2=me V d.1 d.2:=by
   rw [hdx];exact amv hq.num (by have:=hq.len;have:=hq.n2;omega) h1 h2 h3 (by show atL V x.e.r<x.e.n;omega)
  rw [hwl]
  refine ai Z (.whole 6 Z Z Z Z (by rw [cu hw32];rfl) (.tmp Z .nil)) ((ac 8 [3,0,1,2,5] Z Z).trans ((tz (A:=wF H) (B:=wP w) (C:=wF (l1++l2)) (by rw [hH];exact akg)).trans (ac 8 [1,2,5,4,6,7,3] Z Z))) ?_
  refine .inr ⟨x,w,.slice A3 (me V d.1 d.2).length c3,.slice A1 k c1,R',l1++l2,rfl,hxl,hwx,rfl,⟨?_,hR'h,?_⟩,by simp only [stH,rP,hR'l]⟩
  ·have h6:(R' ++ [w]).Perm (l1++w::l2):=hR'p.trans (hH▸hi.perm)
   have h7:(w::R').Perm (w::(l1++l2)):=List.perm_append_comm.trans (h6.trans List.perm_middle)
   exact h7.cons_inv
  ·have h6:L.Perm (nW w::(l1++l2).map nW):=by
    have:=hi.pm
    rw [hH] at this
    exact this.trans ((List.perm_middle (a:=w)).map nW)
   have h7:=h6.filter fun y=>decide (dotW y≠d)
   have e1:(nW w::(l1++l2).map nW).filter (fun y=>decide (dotW y≠d))=(l1++l2).map nW:=by
    rw [List.filter_cons_of_neg (by simp [show dotW (nW w)=d from hwd])]
    rw [List.filter_eq_self]
    intro y hy
    obtain ⟨z,hz,rfl⟩:=List.mem_map.1 hy
    exact decide_eq_true (show dotW (nW z)≠d from hoff z hz)
   rw [e1] at h7
   exact h7
theorem axa (hd:j8 d):SC Tryz.prog m7 [.pointer (some ⟨gq,0,none⟩),ry d] b (que gq n V L::F) (fun u F' =>
  (zn V L d≠0∧u = .tuple ⟨[evV ev0,.int .i64 (zn V L d)]⟩∧F'=que gq n V L::F) ∨
  ∃ x w,jc d L=some x∧qb x.e.deps V=true∧nW w=x∧u = .tuple ⟨[evV w.e,.int .i64 0]⟩∧F'=rZ w.e.dv w.e.deps::rD w.e.rv w.e.refs::que gq n (me V d.1 d.2) (pv d L)::F):=by
 refine SC.opn ?_
 rintro ⟨gm,v,h,R,H⟩ ⟨hq,hi⟩
 dsimp only at hi
 refine (aw9 hd hq hi).out ?_
 rintro u _ (⟨h1,h2,rfl⟩ | ⟨x,w,v',h',R',H',h1,h2,h3,h4,h5,rfl⟩)
 ·exact ⟨_,ib (G:=fun s:Nat × Value × Value × List Wn × List Wn=>stH gq s.1 s.2.1 V s.2.2.1 s.2.2.2.1 s.2.2.2.2 []) (gm,v,h,R,H) ⟨hq,hi⟩,.inl ⟨h1,h2,rfl⟩⟩
 ·have hqd:QI n (me V d.1 d.2) (pv d L):=by
   have:=hq.del (fg h1).1 h2
   rw [← (fg h1).2];exact this
  exact ⟨_,ik (ik (ib (G:=fun s:Nat × Value × Value × List Wn × List Wn=>stH gq s.1 s.2.1 (me V d.1 d.2) s.2.2.1 s.2.2.2.1 s.2.2.2.2 []) (gm,v',h',R',H') ⟨hqd,h5⟩)),.inr ⟨x,w,h1,h2,h3,h4,rfl⟩⟩
end

abbrev stW (gw:Nat) (v l:Value) (V:List Int) (M:List Wn) (F:List SP):List SP:=pt gw io [v,l]::rZ v V::rWs l M::all (wsF M)::F
def rqu (gw n:Nat) (V:List Int) (L:List Wn):SP :=
 exP (S:=Value × Value × List Wn) (fun s=>QI n V L∧s.2.2.map nW=L) fun s=>stW gw s.1 s.2.1 V s.2.2 []
theorem QI.start {n:Nat} (h1:1≤n) (h2:n≤16):QI n (List.replicate n 0) [] where
 n1:=h1
 n2:=h2
 len:=List.length_replicate
 num:=fun x hx=>by rw [(List.mem_replicate.1 hx).2];omega
 nd:=List.nodup_nil
 fit:=fun w hw=>by simp at hw
 new:=fun w hw=>by simp at hw
 ew:=fun w hw=>by simp at hw
 rf:=fun w hw=>by simp at hw
 many:=by simp
 nrm:=fun w hw=>by simp at hw
 so:= .nil
section
variable {b:World} {F:List SP} {gw n:Nat} {V:List Int} {L M:List Wn} {e:Ev} {s:Int} {d:Int × Int}
theorem a5l {n:Nat} (h1:1≤n) (h2:n≤16):SC Tryz.prog ajq [.int .i64 n] b F (fun x F'=>∃ gq,x = .tuple ⟨[.pointer (some ⟨gq,0,none⟩),.int .i64 0]⟩∧F'=que gq n (List.replicate n 0) []::F):=by
 refine (bdn h1 h2).out ?_
 rintro u _ ⟨gq,gm,v,rfl,rfl⟩
 exact ⟨_,ib (G:=fun s:Nat × Value × Value × List Wn × List Wn=>stH gq s.1 s.2.1 (List.replicate n 0) s.2.2.1 s.2.2.2.1 s.2.2.2.2 []) (gm,v,.slice none 0 0,[],[]) ⟨QI.start h1 h2,.refl _,fun i _ h=>by simp at h,.refl _⟩,gq,rfl,rfl⟩
theorem a7p {n:Nat} (h1:1≤n) (h2:n≤16):SC Tryz.prog adj [.int .i64 n] b F (fun x F'=>∃ gw,x = .tuple ⟨[.pointer (some ⟨gw,0,none⟩),.int .i64 0]⟩∧F'=rqu gw n (List.replicate n 0) []::F):=by
 refine SC.out (R:=fun x F'=>∃ gw v,x = .tuple ⟨[.pointer (some ⟨gw,0,none⟩),.int .i64 0]⟩∧F'=stW gw v (.slice none 0 0) (List.replicate n 0) [] F) ?_ ?_
 ·refine bf Tryz.func38 Z Z Z <| bd4 <| bgi Z Z <| bd3 <| ae <| bd4 <| bgj Z Z Z ?_
  refine f0 6 Z (fun h=>by omega) (fun _=> ?_)
  refine bgj Z Z Z <| bd3 ?_
  refine di Z (fun h=>by omega) (fun _=> ?_)
  refine ao <| aa <| bd4 <| af Z ?_
  refine aum (sz:=1) (n:=n) (cs:=ad1 (List.replicate n 0)) Z Z Z Z Z Z Z Z Z (by omega) (by rw [ad1,List.map_replicate];exact apw _ _) fun g=> ?_
  refine fq (G:=rZ (.slice (some ⟨g,0,none⟩) n n) (List.replicate n 0)::F) (by simp only [rZ,List.length_replicate];exact Ent.refl _) ?_
  refine af Z <| cq Z Z Z Z Z fun gw=>bgi Z Z <| bd3 <| aj <| ai Z (.tmp Z (.tmp Z .nil)) (((ji (G:= [])).trans (eh b8 40 Z)).trans (ac 4 [2,3,0,1] Z Z)) ?_
  exact ⟨gw,_,rfl,rfl⟩
 ·rintro u _ ⟨gw,v,rfl,rfl⟩
  exact ⟨_,ib (G:=fun s:Value × Value × List Wn=>stW gw s.1 s.2.1 (List.replicate n 0) s.2.2 []) (v,.slice none 0 0,[]) ⟨QI.start h1 h2,rfl⟩,gw,rfl,rfl⟩
theorem a0j {va:Value} {xs:List Int} {n:Nat} (ha:∀ w,Sat b F w→VL (Value.int .i64) w va xs) (hn:n≤1000000):SC Tryz.prog aan [va,.int .i64 n] b F (fun v F'=>v = .bool (decide (xs.length=n)&&decide (uv xs))∧F'=F):=by
 refine bf Tryz.func188 Z Z Z <| bt (fun w H=>(ha w H).form) ?_
 rintro ⟨A,c,rfl,h1,h2,h3,h4⟩
 refine bd4 <| af Z <| bd3 <| ae <| bd4 <| bgj Z Z Z <| af Z <| bd3 ?_
 by_cases h:xs.length=n
 rotate_left
 ·refine cm 9 (.bool true) Z (by simp;omega) ?_
  refine aq Z <| bd4 <| af Z <| bd3 <| aj <| ag <| ai Z (.tmp Z .nil) (Ent.refl _) ?_
  exact ⟨congrArg Value.bool (by simp [h]),rfl⟩
 refine cm 9 (.bool false) Z (by simp;omega) ?_
 refine al Z <| ao <| aa <| ae <| bd4 <| af Z <| bd3 <| ar <| b6 (S:=Nat) (fun i=> [(0,.slice A xs.length c),(1,.int .i64 n),(5,.int .i64 (i:Int))]) (fun _=>F) (fun i=>i≤xs.length∧∀ k (hk:k<xs.length),k<i→0≤xs[k]∧xs[k]≤1048576) (fun i=>xs.length - i) 0 ⟨rfl,rfl,rfl,trivial⟩ (Ent.refl _) ⟨Nat.zero_le _,fun k _ h=>absurd h (Nat.not_lt_zero k)⟩ ?_
 rintro i ⟨hi,hk⟩
 refine ae <| bd4 <| bgj Z Z Z <| bd3 ?_
 refine di Z (fun g1=> ?_) (fun g1=> ?_)
 ·have h':i<xs.length:=by omega
  obtain ⟨bk,off,rfl⟩:=h4 (by omega)
  have hcell:∀ w,Sat b F w→w.cell? ⟨bk,off+yw ((i:Int)).toNat 1,none⟩=some (.int .i64 xs[i]):=fun w H=>by rw [bi];simpa using VL.at (ha w H) i h'
  have hmem:=List.getElem_mem h'
  have hnx:(0≤xs[i]∧xs[i]≤1048576)→∀ k (hk:k<xs.length),k<i+1→0≤xs[k]∧xs[k]≤1048576:=fun h k hk' hlt=>by
   by_cases e:k=i
   ·subst e;exact h
   ·exact hk k hk' (by omega)
  generalize xs[i]=x at *
  refine ao <| aa <| ae <| ar <| bd4 <| bgi Z Z <| b5 Z (by omega) <| iu Z (fun w H=>bm Z Z Z (hcell w H)) Z <| bgi Z Z ?_
  have no:¬ (0≤x∧x≤1048576)→(decide (xs.length=n)&&decide (uv xs))=false:=fun hx=>by
   rw [decide_eq_false (p:=uv xs) fun hc=>hx (hc x hmem)];simp
  by_cases hx:x<0
  ·refine a9 20 (.bool true) Z (congrArg Value.bool (decide_eq_true hx)) ?_
   (iterate 6 refine af Z ?_)
   refine bd3 <| aq Z <| bd4 <| af Z <| bd3 <| aj <| ap <| ag <| da <| ap <| ag <| ai Z (.tmp Z .nil) (Ent.refl _) ?_
   exact ⟨congrArg Value.bool (no (by omega)).symm,rfl⟩
  ·refine a9 20 (.bool false) Z (congrArg Value.bool (decide_eq_false hx)) <| bgi Z Z <| b5 Z (by omega) <| iu Z (fun w H=>bm Z Z Z (hcell w H)) Z <| bgi Z Z <| bd3 ?_
   by_cases hx2:1048576<x
   ·refine cm 26 (.bool true) Z (congrArg Value.bool (decide_eq_true hx2)) <| aq Z <| bd4 <| af Z <| bd3 <| aj <| ap <| ag <| da <| ap <| ag <| ai Z (.tmp Z .nil) (Ent.refl _) ?_
    exact ⟨congrArg Value.bool (no (by omega)).symm,rfl⟩
   ·refine cm 26 (.bool false) Z (congrArg Value.bool (decide_eq_false hx2)) <| al Z <| ao <| ba <| aa <| ab <| af Z <| b5 Z (by (unfold I64;omega)) <| af Z <| ad <| bj (i+1) ⟨rfl,rfl,rfl,trivial⟩ (Ent.refl _) ⟨h',hnx (by omega)⟩ ?_
    show xs.length - (i+1)<xs.length - i
    omega
 ·refine bu <| av <| ax <| au <| aa <| bd4 <| af Z <| bd3 <| aj <| ai Z (.tmp Z .nil) (Ent.refl _) ?_
  have hok:uv xs:=fun x hx=>by
   obtain ⟨k,hkk,rfl⟩:=List.mem_iff_getElem.1 hx
   exact hk k hkk (by omega)
  exact ⟨congrArg Value.bool (by simp [h,hok]),rfl⟩
set_option maxRecDepth 20000 in
set_option maxHeartbeats 4000000 in
theorem a3u {n:Nat} (he:∀ w,Sat b F w→VL (Value.int .i64) w e.dv e.deps) (hn:n≤1000000) :
  SC Tryz.prog aby [evV e,.int .i64 s,.int .i64 n] b F (fun u F'=>u = .bool (s7 n e s)∧F'=F):=by
 refine bf Tryz.func153 Z Z Z <| bt (fun w H=>(he w H).form) ?_
 rintro ⟨A2,c2,hv2,k1,k2,k3,k4⟩
 refine bd4 <| cq Z Z Z Z Z fun g3=>af Z <| bd3 <| ae <| b7 flo _ (by decide +kernel) (Ent.refl _) ?_
 have no:∀ (hf:¬ (1≤s∧s≤n∧1≤e.r∧e.r≤n∧1≤e.n∧e.n≤1048576∧e.deps.length=n∧uv e.deps∧e.deps.getD (e.r - 1).toNat 0=e.n - 1)),false=s7 n e s:=fun hf=>(decide_eq_false hf).symm
 refine ay Z Zl <| ay Z Zl <| ay Z Zl ?_
 by_cases d0:1≤s
 rotate_left
 ·refine b4 9 (.bool false) Z (by simp;omega) ?_
  (iterate 33 refine ay Z Zl ?_)
  refine ay Z (.inr Z) ?_
  (iterate 17 refine ay Z Zl ?_)
  refine az <| aa <| aj <| ai Z (.tmp Z .nil) (ac 1 [] Z Z) ?_
  exact ⟨congrArg Value.bool (no fun hh=>by omega),rfl⟩
 refine b4 9 (.bool true) Z (by simp;omega) ?_
 (iterate 5 refine ay Z Zl ?_)
 by_cases d1:s≤(n:Int)
 rotate_left
 ·refine b4 14 (.bool false) Z (by simp;omega) ?_
  (iterate 28 refine ay Z Zl ?_)
  refine ay Z (.inr Z) ?_
  (iterate 17 refine ay Z Zl ?_)
  refine az <| aa <| aj <| ai Z (.tmp Z .nil) (ac 1 [] Z Z) ?_
  exact ⟨congrArg Value.bool (no fun hh=>by omega),rfl⟩
 refine b4 14 (.bool true) Z (by simp;omega) ?_
 refine ay Z Zl <| ay Z Zl <| de 0 Z Z Z Z <| ay Z Zl <| ay Z Zl <| ay Z Zl ?_
 by_cases d2:1≤e.r
 rotate_left
 ·refine b4 20 (.bool false) Z (by simp;omega) ?_
  (iterate 22 refine ay Z Zl ?_)
  refine ay Z (.inr Z) ?_
  (iterate 17 refine ay Z Zl ?_)
  refine az <| aa <| aj <| ai Z (.tmp Z .nil) (ac 1 [] Z Z) ?_
  exact ⟨congrArg Value.bool (no fun hh=>by omega),rfl⟩
 refine b4 20 (.bool true) Z (by simp;omega) ?_
 refine ay Z Zl <| ay Z Zl <| de 0 Z Z Z Z <| ay Z Zl <| ay Z Zl <| ay Z Zl <| ay Z Zl ?_
 by_cases d3:e.r≤(n:Int)
 rotate_left
 ·refine b4 27 (.bool false) Z (by simp;omega) ?_
  (iterate 15 refine ay Z Zl ?_)
  refine ay Z (.inr Z) ?_
  (iterate 17 refine ay Z Zl ?_)
  refine az <| aa <| aj <| ai Z (.tmp Z .nil) (ac 1 [] Z Z) ?_
  exact ⟨congrArg Value.bool (no fun hh=>by omega),rfl⟩
 refine b4 27 (.bool true) Z (by simp;omega) ?_
 refine ay Z Zl <| ay Z Zl <| de 0 Z Z Z Z <| ay Z Zl <| ay Z Zl <| ay Z Zl ?_
 by_cases d4:1≤e.n
 rotate_left
 ·refine b4 33 (.bool false) Z (by simp;omega) ?_
  (iterate 9 refine ay Z Zl ?_)
  refine ay Z (.inr Z) ?_
  (iterate 17 refine ay Z Zl ?_)
  refine az <| aa <| aj <| ai Z (.tmp Z .nil) (ac 1 [] Z Z) ?_
  exact ⟨congrArg Value.bool (no fun hh=>by omega),rfl⟩
 refine b4 33 (.bool true) Z (by simp;omega) ?_
 refine ay Z Zl <| ay Z Zl <| de 0 Z Z Z Z <| ay Z Zl <| ay Z Zl <| ay Z Zl ?_
 by_cases d5:e.n≤1048576
 rotate_left
 ·refine b4 39 (.bool false) Z (by simp;omega) ?_
  refine ay Z Zl <| ay Z Zl <| ay Z Zl <| ay Z (.inr Z) ?_
  (iterate 17 refine ay Z Zl ?_)
  refine az <| aa <| aj <| ai Z (.tmp Z .nil) (ac 1 [] Z Z) ?_
  exact ⟨congrArg Value.bool (no fun hh=>by omega),rfl⟩
 refine b4 39 (.bool true) Z (by simp;omega) ?_
 refine ay Z Zl <| de 0 Z Z Z Z <| ay Z Zl <| cz Z Z Z Z (a0j (up he (ac 1 [] Z Z)) hn) (Ent.refl _) <| ay Z Zl <| ay Z Zl ?_
 by_cases d6:e.deps.length=n∧uv e.deps
 rotate_left
 ·refine b4 45 (.bool false) Z (congrArg Value.bool (by simpa using d6)) ?_
  (iterate 15 refine ay Z Zl ?_)
  refine az <| aa <| aj <| ai Z (.tmp Z .nil) (ac 1 [] Z Z) ?_
  exact ⟨congrArg Value.bool (no fun hh=>d6 ⟨hh.2.2.2.2.2.2.1,hh.2.2.2.2.2.2.2.1⟩),rfl⟩
 refine b4 45 (.bool true) Z (congrArg Value.bool (by simpa using d6)) ?_
 refine ay Z Zl <| de 0 Z Z Z Z <| ay Z Zl <| ay Z Zl <| de 0 Z Z Z Z <| dj Z Z (by (unfold I64;omega)) ?_
 obtain ⟨d7,d8⟩:=d6
 obtain ⟨k,hk⟩:∃ k:Nat,e.r - 1=(k:Int):=⟨(e.r - 1).toNat,by omega⟩
 have hkl:k<e.deps.length:=by omega
 obtain ⟨bk,off,rfl⟩:=k4 (by omega)
 have hg:e.deps.getD (e.r - 1).toNat 0=e.deps[k]:=by rw [show (e.r - 1).toNat=k by omega,List.getD_eq_getElem?_getD,List.getElem?_eq_getElem hkl];rfl
 have he2:∀ w,Sat b (pt g3 bo (evC e)::F) w→VL (Value.int .i64) w (.slice (some ⟨bk,off,none⟩) e.deps.length c2) e.deps:=fun w H=>hv2▸up he (ac 1 [] Z Z) w H
 refine b4 47 (.slice (some ⟨bk,off,none⟩) e.deps.length c2) Z hv2 <| dj Z Z (by omega) ?_
 refine fu Z (fun w H=>bm Z Z Z (by rw [bi,show (e.r - 1).toNat=k by omega,Nat.mul_one];exact VL.at (he2 w H) k hkl)) Z Z ?_
 refine ay Z Zl <| ay Z Zl <| de 0 Z Z Z Z <| dj Z Z (by (unfold I64;omega)) <| ay Z Zl <| ay Z Zl <| ay Z Zl <| az <| aa <| aj <| ai Z (.tmp Z .nil) (ac 1 [] Z Z) <| ⟨congrArg Value.bool ?_,rfl⟩
 rw [s7,hg]
 simp [d0,d1,d2,d3,d4,d5,d7,d8]
theorem aku {k:Nat} {A:Option Addr} {bk off c n i j:Nat} (hA:A=some ⟨bk,off,none⟩) (hk:nth F k=some (rWn A c n M)) (hn:M.length=n) (h32:∀ m∈M,m.e.id.length=32) (hi:i<M.length) (hj:j<40):∀ w,Sat b F w→w.cell? ⟨bk,off+i*40+j,none⟩=(waC M[i])[j]?:=fun w H=>by
 subst hA;subst hn
 exact lr (H.oat hk).sl (akj h32) hi hj
theorem j7 {i:Nat}:((i:Int)).toNat=i:=Int.toNat_natCast i
set_option maxHeartbeats 2000000 in
theorem aos {v l:Value} (h32:∀ m∈M,m.e.id.length=32) (hm:M.length≤100000) :
  SC Tryz.prog um [.pointer (some ⟨gw,0,none⟩),ry d] b (stW gw v l V M F) (fun u F'=>((∀ x∈M,dotW x≠d)∧u = .int .i64 (-1)∨∃ (k:Nat) (hk:k<M.length),u = .int .i64 k∧dotW M[k]=d)∧F'=stW gw v l V M F):=by
 refine bf Tryz.func145 Z Z Z <| bt (fun w H=>(H.oat (k:=2) Z).form) ?_
 rintro ⟨A,c,rfl,_,_,k4⟩
 refine bd4 <| cq Z Z Z Z Z fun g3=>af Z <| bd3 <| ae <| bd4 <| af Z <| bd3 <| ar <| b6 (S:=Nat) (fun i=> [(0,.pointer (some ⟨gw,0,none⟩)),(3,.pointer (some ⟨g3,0,none⟩)),(5,.int .i64 (i:Int))]) (fun _=>pt g3 t_api_Dot [.int .i64 d.1,.int .i64 d.2]::stW gw v (.slice A M.length c) V M F) (fun i=>i≤M.length∧∀ k (hk:k<M.length),k<i→dotW M[k]≠d) (fun i=>M.length - i) 0 ⟨rfl,rfl,rfl,trivial⟩ (Ent.refl _) ⟨Nat.zero_le _,fun k _ h=>absurd h (Nat.not_lt_zero k)⟩ ?_
 rintro i ⟨hi,hk⟩
 refine ae <| bd4 <| bgj Z Z Z <| af Z <| df 1 Z Z Z <| bgi Z Z <| bd3 ?_
 refine di Z (fun g1=> ?_) (fun g1=> ?_)
 ·have h':i<M.length:=by omega
  obtain ⟨bk,off,rfl⟩:=k4 (by omega)
  have hc:∀ w,Sat b (pt g3 t_api_Dot [.int .i64 d.1,.int .i64 d.2]::stW gw v (.slice (some ⟨bk,off,none⟩) M.length c) V M F) w→∀ j,j<40→w.cell? ⟨bk,off+i*40+j,none⟩=(waC M[i])[j]?:=fun w H j hj=>aku (k:=3) Z Z Z h32 h' hj w H
  have hnx:dotW M[i]≠d→∀ k (hk:k<M.length),k<i+1→dotW M[k]≠d:=fun h k hk' hlt=>by
   by_cases e:k=i
   ·subst e;exact h
   ·exact hk k hk' (by omega)
  have hx0:M[i]=M[i]:=rfl
  generalize hxd:M[i]=x at hc hnx
  refine ao <| aa <| ae <| ar <| ae <| b7 flo _ (by decide +kernel) (Ent.refl _) <| ay Z Zl <| ay Z Zl <| ay Z Zl <| de 1 Z Z Z Z <| ay Z Zl <| dj Z Z (by omega) <| ay Z Zl <| ay Z Zl ?_
  refine fu Z (fun w H=>cn (cs:= [.int .i64 x.e.r,.int .i64 x.e.n]) Z Z Z Z (fun j hj=>by
   rw [bi,j7]
   rcases j with _ | _ | j
   ·exact (hc w H 0 (by omega)).trans Z
   ·exact (hc w H 1 (by omega)).trans Z
   ·simp only [List.length_cons,List.length_nil] at hj;omega)) Z Z ?_
  refine de 0 Z Z Z Z <| qz Z (aaa Z Z (yq _ _ _ _)) Z Z <| az ?_
  by_cases hd:dotW x=d
  ·have h3:x.e.r=d.1∧x.e.n=d.2:=⟨congrArg Prod.fst hd,congrArg Prod.snd hd⟩
   refine aa <| cm 25 (.bool true) Z (congrArg Value.bool (decide_eq_true h3)) <| aq Z <| bd4 <| bgi Z Z <| bd3 <| aj <| ap <| ag <| da <| ap <| ag <| ai Z (.tmp Z .nil) (ac 1 [] Z Z) ?_
   exact ⟨.inr ⟨i,h',rfl,by rw [hxd];exact hd⟩,rfl⟩
  ·have h3:¬ (x.e.r=d.1∧x.e.n=d.2):=fun hc=>hd (Prod.ext hc.1 hc.2)
   refine aa <| cm 25 (.bool false) Z (congrArg Value.bool (decide_eq_false h3)) <| al Z <| ao <| ba <| aa <| ab <| af Z <| b5 Z (by (unfold I64;omega)) <| af Z <| ad <| bj (i+1) ⟨rfl,rfl,rfl,trivial⟩ (Ent.refl _) ⟨h',hnx hd⟩ ?_
   show M.length - (i+1)<M.length - i
   omega
 ·refine bu <| av <| ax <| au <| aa <| bd4 <| af Z <| bd3 <| aj <| ai Z (.tmp Z .nil) (ac 1 [] Z Z) <| ⟨.inl ⟨fun x hx=> ?_,rfl⟩,rfl⟩
  obtain ⟨k,hkk,rfl⟩:=List.mem_iff_getElem.1 hx
  exact hk k hkk (by omega)
end

theorem akv {l l':List Value} (m:List Value) (h:l'.length=l.length):aeh (l++m) 0 l'=some (l'++m):=by
 induction l generalizing l' with
 | nil =>
  obtain rfl:l' = []:=List.eq_nil_of_length_eq_zero h
  cases m <;> rfl
 | cons a l ih =>
  cases l' with
  | nil => simp at h
  | cons c l' => simp only [List.cons_append, aeh, ih (by simpa using h)]
theorem atp {e:Ev} {s:Int} (h:e.id.length=32):pn (wsC e s) 0 39=some (evC e):=tm _ (cu h)
section
variable {b:World} {F:List SP} {gw n:Nat} {V:List Int} {L M:List Wn} {e:Ev} {s:Int} {d:Int × Int}
theorem QI.m32 (hq:QI n V (M.map nW)):∀ m∈M,m.e.id.length=32:=fun m hm=>hq.i32 (nW m) (List.mem_map.2 ⟨m,hm,rfl⟩)
theorem QI.mlen (hq:QI n V (M.map nW)):M.length≤100000:=by have:=hq.many;rwa [List.length_map] at this
theorem QI.md (hq:QI n V (M.map nW)) {m:Wn} (hm:m∈M):m.e.deps.length≤1000000∧m.e.refs.length≤1000000:=by
 have h1:=of_decide_eq_true (hq.fit (nW m) (List.mem_map.2 ⟨m,hm,rfl⟩))
 have h7:m.e.deps.length=n:=h1.2.2.2.2.2.2.1
 have h16:=hq.n2
 exact ⟨by omega,hq.rf (nW m) (List.mem_map.2 ⟨m,hm,rfl⟩)⟩
theorem QI.mnd (hq:QI n V (M.map nW)):(M.map dotW).Nodup:=by
 have:=hq.nd
 rw [List.map_map] at this;exact this
set_option maxRecDepth 20000 in
set_option maxHeartbeats 4000000 in
theorem ara {v l:Value} (hq:QI n V (M.map nW)):SC Tryz.prog kh [.pointer (some ⟨gw,0,none⟩),ry d] b (stW gw v l V M F) (fun u F' =>
  ((∀ x∈M,dotW x≠d)∧u = .tuple ⟨[.agg ⟨wsC ev0 0⟩,.bool false]⟩∧F'=stW gw v l V M F)∨∃ x∈M,∃ dv rv,dotW x=d∧u = .tuple ⟨[.agg ⟨wsC (x.e.own dv rv) x.src⟩,.bool true]⟩∧F'=rZ dv x.e.deps::rD rv x.e.refs::stW gw v l V M F):=by
 refine bf Tryz.func95 Z Z Z <| bt (fun w H=>(H.oat (k:=2) Z).form) ?_
 rintro ⟨A,c,rfl,_,_,k4⟩
 refine bd4 <| cq Z Z Z Z Z fun g3=> ?_
 skip
 refine ek Z Z Z Z Z fun g4=>fq (ac 6 [2,3,4,5,0,1] Z Z) <| af Z <| a8r <| af Z <| df 5 Z Z Z <| bq Z Z Z (aos (d:=d) (hq.m32) hq.mlen) ?_
 rintro _ _ ⟨⟨hno,rfl⟩ | ⟨k,hk,rfl,hkd⟩,rfl⟩
 ·refine af Z <| bd3 <| ae <| bd4 <| bgi Z Z <| bd3 <| aq Z <| bd4 <| af Z <| iv 4 Z Z Z Z <| af Z <| bd3 <| aj <| ag <| ai Z (.agg 4 Z Z Z Z Z (.tmp Z .nil)) (ac 6 [0,1,2,3] Z Z) ?_
  exact .inl ⟨hno,rfl,rfl⟩
 ·obtain ⟨bk,off,rfl⟩:=k4 (by omega)
  have hmem:=List.getElem_mem hk
  have hc:∀ G w,Sat b (stW gw v (.slice (some ⟨bk,off,none⟩) M.length c) V M G) w→∀ j,j<40→w.cell? ⟨bk,off+k*40+j,none⟩=(waC M[k])[j]?:=fun G w H j hj=>aku (k:=2) Z Z Z hq.m32 hk hj w H
  have hx32:=hq.m32 _ hmem
  obtain ⟨hxd,hxl⟩:=hq.md hmem
  have hml:=hq.mlen
  generalize M[k]=x at *
  refine af Z <| bd3 <| ae <| bd4 <| bgi Z Z <| bd3 <| al Z <| ao <| aa <| bd4 <| bgj Z Z Z <| df 0 Z Z Z <| af Z <| b5 Z (by omega) ?_
  refine iu Z (fun w H=>cn (cs:=waC x) Z Z Z (ec hx32) (fun j hj=>by rw [ec hx32] at hj;rw [bi,j7];exact hc _ w H j hj)) Z ?_
  refine b9 (fun w H=>(pd (k:=3) Z hmem w H).dv.form) ?_
  rintro ⟨A5,c5,hdv,_,_,_⟩
  refine b9 (fun w H=>du (pd (k:=3) Z hmem w H).rv) ?_
  rintro ⟨A6,c6,hrv,_,_,_⟩
  refine ek Z Z Z Z Z fun g7=> ?_
  refine im 0 Z Z Z Z Z Z Z (ec hx32) (ng (by rw [hdv];rfl) (by rw [hrv];rfl)) (by rw [ec hx32];rfl) ?_
  refine a8r <| af Z <| dk 0 Z Z Z Z Z Z (atp hx32) Z <| bq Z Z Z (uw (e:=x.e) (pd (k:=4) Z hmem) hx32 hxd hxl) ?_
  rintro _ _ ⟨dv,rv,rfl,rfl⟩
  refine b9 (fun w H=>(H.oat (k:=0) Z).form) ?_
  rintro ⟨A2,c2,rfl,_,_,_⟩
  refine b9 (fun w H=>(H.oat (k:=1) Z).form) ?_
  rintro ⟨A3,c3,rfl,_,_,_⟩
  have hy32:(x.e.own (.slice A2 x.e.deps.length c2) (.slice A3 x.e.refs.length c3)).id.length=32:=hx32
  have hyone:∀ u∈evC (x.e.own (.slice A2 x.e.deps.length c2) (.slice A3 x.e.refs.length c3)),u.oneCell'=true:=kj Z Z
  have hwone:∀ u∈wsC (x.e.own (.slice A2 x.e.deps.length c2) (.slice A3 x.e.refs.length c3)) x.src,u.oneCell'=true:=ng Z Z
  refine af Z ?_
  refine asc (vs:=evC (x.e.own (.slice A2 x.e.deps.length c2) (.slice A3 x.e.refs.length c3))) (cs':=wsC (x.e.own (.slice A2 x.e.deps.length c2) (.slice A3 x.e.refs.length c3)) x.src) 2 Z Z Z Z Z Z (by rw [cu hy32];rfl) (List.all_eq_true.2 hyone) Z (akv _ (by rw [cu hy32,cu hx32])) Z ?_
  generalize hye:x.e.own (.slice A2 x.e.deps.length c2) (.slice A3 x.e.refs.length c3)=ye at *
  refine a8r ?_
  refine dk 2 Z Z Z Z Z Z (fd (by rw [ec hy32];rfl)) Z ?_
  refine im 7 Z Z Z Z Z Z Z (ec hy32) hwone (by rw [ec hy32];rfl) ?_
  refine af Z <| bd3 <| aj ?_
  refine ai Z (.whole 7 Z Z Z Z (by rw [ec hy32];rfl) (.tmp Z .nil)) (ac 9 [0,1,3,4,5,6] Z Z) ?_
  exact .inr ⟨x,hmem,_,_,hkd,by rw [hye];rfl,rfl⟩
set_option maxRecDepth 20000 in
set_option maxHeartbeats 4000000 in
theorem aot {v l:Value} (hq:QI n V (M.map nW)):SC Tryz.prog u3 [.pointer (some ⟨gw,0,none⟩)] b (stW gw v l V M F) (fun u F'=>∃ D,D.map nW=M.map nW∧F'=rWs u D::all (wsF D)::stW gw v l V M F):=by
 have hml:=hq.mlen
 refine bf Tryz.func108 Z Z Z <| bt (fun w H=>(H.oat (k:=2) Z).form) ?_
 rintro ⟨A0,c0,rfl,_,_,k4⟩
 refine bd4 <| af Z <| a8r <| af Z <| bd3 <| ae <| bd4 <| af Z <| bd3 <| ar ?_
 refine b6 (S:=Nat × List Wn × Nat × Option Addr × Nat) (fun s=> [(0,.pointer (some ⟨gw,0,none⟩)),(3,.slice s.2.2.2.1 s.2.2.1 s.2.2.2.2),(4,.int .i64 (s.1:Int))])
  (fun s=>rWn s.2.2.2.1 s.2.2.2.2 s.2.2.1 s.2.1::all (wsF s.2.1)::stW gw v (.slice A0 M.length c0) V M F) (fun s=>s.1≤M.length∧s.2.1.map nW=(M.take s.1).map nW∧s.2.1.length=s.2.2.1) (fun s=>M.length - s.1) (0,[],0,none,0) ⟨rfl,rfl,rfl,trivial⟩ ?_ ⟨Nat.zero_le _,rfl,rfl⟩ ?_
 ·exact (ji (G:= [])).trans (eh b8 40 Z)
 rintro ⟨i,D,o,A,c⟩ ⟨hi1,hD,ho⟩
 dsimp only at hi1 hD ho ⊢
 have hDl:D.length=i:=by have:=congrArg List.length hD;rw [List.length_map,List.length_map,List.length_take] at this;omega
 refine ae <| bd4 <| bgj Z Z Z <| af Z <| df 2 Z Z Z <| bgi Z Z <| bd3 ?_
 refine di Z (fun h1=> ?_) (fun h1=> ?_)
 ·have h1':i<M.length:=by omega
  obtain ⟨bk,off,rfl⟩:=k4 (by omega)
  have hmem:=List.getElem_mem h1'
  have hsn:(M.take (i+1)).map nW=D.map nW ++ [nW M[i]]:=by rw [List.take_succ_eq_append_getElem h1',List.map_append,← hD];rfl
  have hc:∀ w,Sat b (rWn A c o D::all (wsF D)::stW gw v (.slice (some ⟨bk,off,none⟩) M.length c0) V M F) w→∀ j,j<40→w.cell? ⟨bk,off+i*40+j,none⟩=(waC M[i])[j]?:=fun w H j hj=>aku (k:=4) Z Z Z hq.m32 h1' hj w H
  generalize M[i]=x at *
  refine ao <| aa <| ae <| ar <| bd4 <| bgj Z Z Z <| af Z <| df 2 Z Z Z <| af Z <| b5 Z (by omega) <| bgi Z Z ?_
  refine iu Z (fun w H=>cn (cs:= [.int .i64 x.e.r,.int .i64 x.e.n]) Z Z Z Z (fun j hj=>by
   rw [bi,j7]
   rcases j with _ | _ | j
   ·exact (hc w H 0 (by omega)).trans Z
   ·exact (hc w H 1 (by omega)).trans Z
   ·simp only [List.length_cons,List.length_nil] at hj;omega)) Z ?_
  refine bq Z Z Z ((ara (gw:=gw) (d:=dotW x) (F:=rWn A c o D::all (wsF D)::F) hq).ent (ac 6 [2,3,4,5,0,1] Z Z)) ?_
  rintro _ _ (⟨hno,_,_⟩ | ⟨y,hy,dv,rv,hyd,rfl,rfl⟩)
  ·exact absurd Z (hno x hmem)
  obtain rfl:y=x:=af4 hq.mnd hy hmem hyd
  have hx32:=hq.m32 _ hmem
  refine b9 (fun w H=>(H.oat (k:=0) Z).form) ?_
  rintro ⟨A2,c2,rfl,_,_,_⟩
  refine b9 (fun w H=>(H.oat (k:=1) Z).form) ?_
  rintro ⟨A3,c3,rfl,_,_,_⟩
  generalize hye:y.e.own (.slice A2 y.e.deps.length c2) (.slice A3 y.e.refs.length c3)=ye
  have hy32:ye.id.length=32:=by rw [← hye];exact hx32
  have hyone:∀ u∈wsC ye y.src,u.oneCell'=true:=ng (by rw [← hye];rfl) (by rw [← hye];rfl)
  refine bgj Z Z Z <| ek Z Z Z Z Z fun g5=> ?_
  refine im 0 Z Z Z Z Z Z Z (ec hy32) hyone (by rw [ec hy32];rfl) ?_
  refine af Z <| bd3 <| ab <| af Z ?_
  refine dk 0 Z Z Z Z Z Z (fd (by rw [ec hy32];rfl)) Z ?_
  refine ky Z Z Z Z Z Z Z (ec hy32) (by decide) fun gl=> ?_
  refine dx 8 Z Z Z Z Z Z Z Z Z (m:=1) (news:=wsC ye y.src) (fun w H=>(H.blk (k:=0) Z).sl (by rw [ec hy32]) (by decide)) hyone (by omega) (fun _=>rfl) fun v8=> ?_
  refine b9 (fun w H=>(H.oat (k:=8) Z).form) ?_
  rintro ⟨A7,c7,rfl,_,_,_⟩
  refine af Z <| ad <| ba <| aa <| ab <| af Z <| b5 Z (by (unfold I64;omega)) <| af Z <| ad ?_
  have hnx:nW ⟨0,ye,y.src⟩=nW y:=by rw [← hye];rfl
  refine lv (G:=wsP ⟨0,ye,y.src⟩++(all (wsF D)::rWn A7 c7 (o+1) (D ++ [⟨0,ye,y.src⟩])::stW gw v (.slice (some ⟨bk,off,none⟩) M.length c0) V M F)) ?_ ?_
  ·have e1:rWn A7 c7 (o+1) (D ++ [⟨0,ye,y.src⟩])=row b8 40 (.slice A7 (o+1) c7) (o+1) (afx D++wsC ye y.src):=by
    simp only [rWn,mo,flC,List.append_nil]
   rw [e1]
   subst hye
   exact ac 10 [2,3,9,8,4,5,6,7] Z Z
  refine lv (ql (A:=wsF (D ++ [⟨0,ye,y.src⟩])) aq0) ?_
  refine bj (i+1,D ++ [⟨0,ye,y.src⟩],o+1,A7,c7) ⟨rfl,rfl,rfl,trivial⟩ (ac 2 [1,0] Z Z) ⟨h1',by dsimp only;rw [hsn,List.map_append];simp [hnx],by simp [ho]⟩ (by dsimp only;omega)
 ·refine bu <| av <| ax <| au <| aa <| bd4 <| bgi Z Z <| bd3 <| aj ?_
  obtain rfl:i=M.length:=by omega
  rw [List.take_length] at hD
  subst ho
  refine ai Z (.tmp Z .nil) (Ent.refl _) ?_
  exact ⟨D,hD,rfl⟩
theorem akw {v l:Value} (hq:QI n V L) (hM:M.map nW=L):Ent (stW gw v l V M F) (rqu gw n V L::F) :=
 ib (G:=fun s:Value × Value × List Wn=>stW gw s.1 s.2.1 V s.2.2 []) (v,l,M) ⟨hq,hM⟩
theorem a0k:SC Tryz.prog kh [.pointer (some ⟨gw,0,none⟩),ry d] b (rqu gw n V L::F) (fun u F' =>
  (jc d L=none∧u = .tuple ⟨[.agg ⟨wsC ev0 0⟩,.bool false]⟩∧F'=rqu gw n V L::F)∨∃ x dv rv,jc d L=some x∧u = .tuple ⟨[.agg ⟨wsC (x.e.own dv rv) x.src⟩,.bool true]⟩∧F'=rZ dv x.e.deps::rD rv x.e.refs::rqu gw n V L::F):=by
 refine SC.opn ?_
 rintro ⟨v,l,M⟩ ⟨hq,hM⟩
 dsimp only at hM
 subst hM
 refine (ara hq).out ?_
 rintro u _ (⟨h1,h2,rfl⟩ | ⟨x,hx,dv,rv,h1,h2,rfl⟩)
 ·refine ⟨_,akw hq rfl,.inl ⟨aeb fun y hy=> ?_,h2,rfl⟩⟩
  obtain ⟨z,hz,rfl⟩:=List.mem_map.1 hy
  exact h1 z hz
 ·exact ⟨_,ik (ik (akw hq Z)),.inr ⟨nW x,dv,rv,r6 hq.nd (List.mem_map.2 ⟨x,hx,rfl⟩) h1,h2,rfl⟩⟩
end

section
variable {α:Type} {f:α→List Value} {l:List α} {sz:Nat}
theorem arb (h:∀ a∈l,(f a).length=sz) (i:Nat):(flC f l).take (i*sz)=flC f (l.take i):=by
 induction l generalizing i with
 | nil => simp [flC]
 | cons x l ih =>
  have h1:=h x List.mem_cons_self
  cases i with
  | zero => simp [flC]
  | succ i =>
   simp only [flC,List.take_succ_cons,← ih (fun w hw=>h w (List.mem_cons_of_mem _ hw)) i]
   rw [Nat.succ_mul,Nat.add_comm,← h1,List.take_length_add_append]
theorem arc (h:∀ a∈l,(f a).length=sz) (i:Nat):(flC f l).drop (i*sz)=flC f (l.drop i):=by
 induction l generalizing i with
 | nil => simp [flC]
 | cons x l ih =>
  have h1:=h x List.mem_cons_self
  cases i with
  | zero => simp [flC]
  | succ i =>
   simp only [flC,List.drop_succ_cons,← ih (fun w hw=>h w (List.mem_cons_of_mem _ hw)) i]
   rw [Nat.succ_mul,Nat.add_comm,← h1,List.drop_length_add_append]
theorem ard (h:∀ a∈l,(f a).length=sz) {i j:Nat} {x:α} {v:Value} (hi:i<l.length) (hj:j<sz) (hx:f x=(f l[i]).set j v):spl (flC f l) (i*sz+j) [v]=flC f (l.set i x):=by
 have hs:∀ {cs:List Value} {o:Nat},o<cs.length→spl cs o [v]=cs.set o v:=fun {cs o} ho=>by
  rw [spl,List.set_eq_take_append_cons_drop,if_pos ho];simp
 have hle:(i+1)*sz≤l.length*sz:=Nat.mul_le_mul_right _ hi
 rw [Nat.succ_mul] at hle
 rw [hs (by rw [vo h];omega)]
 clear hs hle
 induction l generalizing i with
 | nil => simp at hi
 | cons y l ih =>
  have h1:=h y List.mem_cons_self
  cases i with
  | zero =>
   simp only [List.getElem_cons_zero] at hx
   simp only [List.set_cons_zero,flC,hx,Nat.zero_mul,Nat.zero_add]
   rw [List.set_append_left _ _ (by omega)]
  | succ i =>
   have:=ih (fun w hw=>h w (List.mem_cons_of_mem _ hw)) (by simpa using hi) (by simpa using hx)
   simp only [List.set_cons_succ,flC,← this]
   rw [List.set_append_right _ _ (by rw [h1,Nat.succ_mul];omega),h1,Nat.succ_mul,show i*sz+sz+j - sz=i*sz+j by omega]
end
theorem avd (x:Wn):∀ (l:List Wn) (i:Nat),i≤l.length→(∀ k (hk:k<l.length),k<i→HOrd.lt l[k] x=true)→(∀ hi:i<l.length,HOrd.lt l[i] x=false)→ae1 x l=l.take i++x::l.drop i
 | [], i, h, _, _ => by
  obtain rfl:i=0:=by simpa using h
  rfl
 | y :: l, 0, _, _, h2 => by
  have:=h2 (by simp)
  simp only [List.getElem_cons_zero] at this
  simp only [ae1,this,List.take_zero,List.drop_zero,List.nil_append];rfl
 | y :: l, i + 1, h, h1, h2 => by
  have h3:=h1 0 (by simp) (by omega)
  simp only [List.getElem_cons_zero] at h3
  simp only [ae1,h3,if_true,List.take_succ_cons,List.drop_succ_cons,List.cons_append]
  rw [avd x l i (by simpa using h) (fun k hk hlt=>by have:=h1 (k+1) (by simpa using hk) (by omega);simpa using this) (fun hi=>by have:=h2 (by simpa using hi);simpa using this)]
section
variable {b:World} {F:List SP} {gw n:Nat} {V:List Int} {L M:List Wn} {e:Ev} {s:Int} {d:Int × Int}
theorem axb {e f:Ev} (he:∀ w,Sat b F w→VL (Value.int .i64) w e.dv e.deps) (hf:∀ w,Sat b F w→VL (Value.int .i64) w f.dv f.deps) (h1:e.deps.length≤1000000) (h2:f.deps.length≤1000000) :
  SC Tryz.prog ab4 [evV e,evV f] b F (fun v F'=>v = .bool (ltE e f)∧F'=F):=by
 refine bf Tryz.func189 Z Z Z <| bd4 <| cq Z Z Z Z Z fun g2=> ?_
 skip
 refine cq Z Z Z Z Z fun g3=>af Z <| a8r <| af Z <| df 1 Z Z Z <| af Z <| df 1 Z Z Z <| af Z <| df 0 Z Z Z <| af Z <| df 0 Z Z Z <| bh Z Z Z (SC.ofExt fun w H=>aod (up he (ac 2 [] Z Z) w H) (up hf (ac 2 [] Z Z) w H) (by omega) (by omega)) <| af Z <| bd3 <| aj <| ai Z (.tmp Z .nil) (ac 2 [] Z Z) ?_
 exact ⟨rfl,rfl⟩
theorem atq {l:List Wn} (h:∀ m∈l,m.e.dv.oneCell'=true∧m.e.rv.oneCell'=true):∀ u∈afx l,u.oneCell'=true:=anu fun m hm=>ng (h m hm).1 (h m hm).2
theorem ave {l:List Wn} {k:Nat} (hk:nth F k=some (all (wsF l))):∀ w,Sat b F w→∀ m∈l,m.e.dv.oneCell'=true∧m.e.rv.oneCell'=true:=fun w H m hm=>by
 obtain ⟨h1,h2⟩:=pd hk hm w H
 obtain ⟨A,c,hv,_⟩:=h1.form
 obtain ⟨A2,c2,hv2,_⟩:=du h2
 rw [hv,hv2];exact ⟨rfl,rfl⟩
set_option maxRecDepth 20000 in
set_option maxHeartbeats 4000000 in
theorem bdw {v l:Value} (hq:QI n V (M.map nW)) (h64:M.length≤1000) (he:∀ w,Sat b F w→ER w e) (h32:e.id.length=32) (hd:e.deps.length≤1000000) (hl:e.refs.length≤1000000) :
  SC Tryz.prog vy [.pointer (some ⟨gw,0,none⟩),.agg ⟨wsC e s⟩] b (stW gw v l V M F) (fun _ F'=>∃ l' M',F'=stW gw v l' V M' F∧M'.map nW=ae1 (nW ⟨0,e,s⟩) (M.map nW)):=by
 have hm32:=hq.m32
 refine bf Tryz.func155 Z Z Z <| bt (fun w H=>(H.oat (k:=2) Z).form) ?_
 rintro ⟨A,c,rfl,kc,_,k4⟩
 refine bd4 <| cq Z Z Z Z Z fun g3=>fq (ac 5 [1,2,3,4,0] Z Z) <| a8r <| af Z <| bd3 ?_
 refine wu (S:=Nat) (fun i=> [(0,.pointer (some ⟨gw,0,none⟩)),(3,.pointer (some ⟨g3,0,none⟩)),(4,.int .i64 (i:Int))]) (fun _=>stW gw v (.slice A M.length c) V M (pt g3 b8 (wsC e s)::F)) (fun i=>i≤M.length∧ae1 (nW ⟨0,e,s⟩) (M.map nW)=(M.take i).map nW++nW ⟨0,e,s⟩::(M.drop i).map nW) ?_ ?_
 ·refine ar <| b6 (S:=Nat) (fun i=> [(0,.pointer (some ⟨gw,0,none⟩)),(3,.pointer (some ⟨g3,0,none⟩)),(4,.int .i64 (i:Int))]) (fun _=>stW gw v (.slice A M.length c) V M (pt g3 b8 (wsC e s)::F)) (fun i=>i≤M.length∧∀ k (hk:k<M.length),k<i→ltE M[k].e e=true) (fun i=>M.length - i) 0 ⟨rfl,rfl,rfl,trivial⟩ (Ent.refl _) ⟨Nat.zero_le _,fun k _ h=>absurd h (Nat.not_lt_zero k)⟩ ?_
  rintro i ⟨hi,hk⟩
  have fin:∀ (hstop:∀ hi:i<M.length,ltE M[i].e e=false),ae1 (nW ⟨0,e,s⟩) (M.map nW)=(M.take i).map nW++nW ⟨0,e,s⟩::(M.drop i).map nW:=fun hstop=>by
   rw [avd (nW ⟨0,e,s⟩) (M.map nW) i (by simpa using hi) (fun k hk' hlt=>by
    have h1:k<M.length:=by simpa using hk'
    have:=hk k h1 hlt
    rw [List.getElem_map];exact this) (fun hi'=>by
    have h1:i<M.length:=by simpa using hi'
    have:=hstop h1
    rw [List.getElem_map];exact this),List.map_take,List.map_drop]
  refine ae <| ae <| b7 flo _ (by decide +kernel) (Ent.refl _) <| ay Z Zl <| ay Z Zl <| ay Z Zl <| ay Z Zl <| de 0 Z Z Z Z <| ay Z Zl <| ay Z Zl <| ay Z Zl ?_
  by_cases h1:i<M.length
  ·refine b4 13 (.bool true) Z (congrArg Value.bool (decide_eq_true (by omega))) ?_
   obtain ⟨bk,off,rfl⟩:=k4 (by omega)
   have hmem:=List.getElem_mem h1
   have hc:∀ w,Sat b (stW gw v (.slice (some ⟨bk,off,none⟩) M.length c) V M (pt g3 b8 (wsC e s)::F)) w→∀ j,j<40→w.cell? ⟨bk,off+i*40+j,none⟩=(waC M[i])[j]?:=fun w H j hj=>aku (k:=2) Z Z Z hm32 h1 hj w H
   have hnx:ltE M[i].e e=true→∀ k (hk:k<M.length),k<i+1→ltE M[k].e e=true:=fun h k hk' hlt=>by
    by_cases e1:k=i
    ·subst e1;exact h
    ·exact hk k hk' (by omega)
   have fin':ltE M[i].e e=false→_:=fun h=>fin fun _=>h
   have hx32:=hm32 _ hmem
   obtain ⟨hxd,hxl⟩:=hq.md hmem
   generalize M[i]=x at *
   refine ay Z Zl <| ay Z Zl <| ay Z Zl <| de 0 Z Z Z Z <| ay Z Zl <| dj Z Z (by omega) <| ay Z Zl ?_
   refine fu Z (fun w H=>cn (cs:=evC x.e) Z Z Z (cu hx32) (fun j hj=>by rw [cu hx32] at hj;rw [bi,j7];exact (hc w H j (by omega)).trans (a5i hx32 hj))) Z Z ?_
   refine ay Z Zl <| jm 4 Z Z Z Z Z Z (atp h32) Z Z <| cz Z Z Z Z (axb (fun w H=>(pd (k:=3) Z hmem w H).dv) (up (fun w H=>(he w H).dv) (ac 5 [] Z Z)) hxd hd) (Ent.refl _) <| ay Z Zl <| az ?_
   cases hq1:ltE x.e e with
   | true =>
    refine aa <| aq Z <| ao <| aa <| ar <| ab <| af Z <| b5 Z (by (unfold I64;omega)) <| af Z <| ad <| ba <| bj (i+1) ⟨rfl,rfl,rfl,trivial⟩ (Ent.refl _) ⟨h1,hnx hq1⟩ ?_
    show M.length - (i+1)<M.length - i
    omega
   | false =>
    refine aa <| al Z <| bu <| av <| ax <| au ?_
    exact i9 i ⟨rfl,rfl,rfl,trivial⟩ (Ent.refl _) ⟨hi,fin' hq1⟩
  ·refine b4 13 (.bool false) Z (congrArg Value.bool (decide_eq_false (by omega))) ?_
   (iterate 10 refine ay Z Zl ?_)
   refine ay Z (.inr Z) <| ay Z Zl <| az <| aa <| al Z <| bu <| av <| ax <| au ?_
   exact i9 i ⟨rfl,rfl,rfl,trivial⟩ (Ent.refl _) ⟨hi,fin fun h=>absurd h h1⟩
 rintro i ⟨hi,hins⟩
 refine bd4 <| af Z <| dk 4 Z Z Z Z Z Z (atp h32) Z <| bq Z Z Z (uw (e:=e) (up he (ac 5 [] Z Z)) h32 hd hl) ?_
 rintro _ _ ⟨dv,rv,rfl,rfl⟩
 refine b9 (fun w H=>(H.oat (k:=0) Z).form) ?_
 rintro ⟨A2,c2,rfl,_,_,_⟩
 refine b9 (fun w H=>(H.oat (k:=1) Z).form) ?_
 rintro ⟨A3,c3,rfl,_,_,_⟩
 refine b9 (fun w H=>ave (k:=5) Z w H) fun hMone=> ?_
 have hMones:=atq hMone
 have hy32:(e.own (.slice A2 e.deps.length c2) (.slice A3 e.refs.length c3)).id.length=32:=h32
 have hyone:∀ u∈evC (e.own (.slice A2 e.deps.length c2) (.slice A3 e.refs.length c3)),u.oneCell'=true:=kj Z Z
 have hwone:∀ u∈wsC (e.own (.slice A2 e.deps.length c2) (.slice A3 e.refs.length c3)) s,u.oneCell'=true:=ng Z Z
 refine af Z ?_
 refine asc (vs:=evC (e.own (.slice A2 e.deps.length c2) (.slice A3 e.refs.length c3))) (cs':=wsC (e.own (.slice A2 e.deps.length c2) (.slice A3 e.refs.length c3)) s) 6 Z Z Z Z Z Z (by rw [cu hy32];rfl) (List.all_eq_true.2 hyone) Z (akv _ (by rw [cu hy32,cu h32])) Z ?_
 generalize hye:e.own (.slice A2 e.deps.length c2) (.slice A3 e.refs.length c3)=ye at *
 refine a8r <| aio Z Z Z Z Z fun g32=>fq (iz (n:=0) (sz:=40) Z Z (by decide) 0 Z Z) <| bgj Z Z Z <| df 3 Z Z Z <| af Z <| b5 Z (by omega) ?_
 have hi1:((i:Int)).toNat=i:=j7
 refine a9 38 (.slice (if c=i then A else A.map (·.add (i*40))) (M.length - i) (c - i)) Z (by rw [hi1]) ?_
 refine dx 0 Z Z Z Z Z Z Z Z Z (abp (k:=5) Z hi) (fun u hu=>hMones u (List.mem_of_mem_drop hu)) (by omega) (fun _=>rfl) fun v39=> ?_
 rw [Nat.zero_add (M.length - i),List.nil_append,arc (akj hm32)]
 refine b9 (fun w H=>(H.oat (k:=0) Z).form) ?_
 rintro ⟨A4,c4,rfl,_,_,_⟩
 refine af Z <| bd3 <| kt flo 12 (pt gw io [v,.slice A M.length c]::pt g3 b8 (wsC ye s)::F) [] Z (by decide +kernel) (ac 8 [3,7] Z Z) <| ay Z Zl <| ay Z Zl <| ay Z Zl <| ay Z Zl <| de 0 Z Z Z Z <| ay Z Zl <| dj Z Z (by omega) ?_
 refine jm 1 Z Z Z Z Z Z (fd (by rw [ec hy32];rfl)) Z Z ?_
 refine n9 Z Z Z Z Z Z Z Z (ec hy32) (by decide) (ac 8 [3,7] Z Z) fun gl=>b4 46 (.slice A i c) Z Z ?_
 refine ajm 6 Z Z Z Z Z Z Z Z Z Z hi (m:=1) (news:=wsC ye s) (fun w H=>(H.blk (k:=0) Z).sl (by rw [ec hy32]) (by decide)) hwone (by omega) (fun _=>rfl) (fun _=>ac 9 [4,8] Z Z) fun v49=> ?_
 rw [arb (akj hm32)]
 refine ay Z Zl <| nz 6 Z Z Z Z Z Z Z Z Z Z (m:=M.length - i) (news:=afx (M.drop i)) (fun w H=>(H.oat (k:=1) Z).sl) (atq fun m hm=>hMone m (List.mem_of_mem_drop hm)) (by omega) (fun _=>rfl) (fun _=>ac 9 [4,8] Z Z) fun v51=>ie (fun w H=>(H.oat (k:=6) Z).form) ?_
 rintro ⟨A7,c7,rfl,_,_,_⟩
 skip
 refine az <| ku Z (dw _) <| ay Z Zl <| ay Z Zl <| ug 4 Z Z Z Z Z Z Z Z Z Z Z (dw _) <| az ?_
 have hM':(M.take i++(⟨0,ye,s⟩:Wn)::M.drop i).length=i+1+(M.length - i):=by simp;omega
 have hcat:afx (M.take i)++wsC ye s++afx (M.drop i)=afx (M.take i++(⟨0,ye,s⟩:Wn)::M.drop i):=by
  rw [afx,mo,flC,List.append_assoc]
 have hperm:(wsF (M.take i++(⟨0,ye,s⟩:Wn)::M.drop i)).Perm (wsP ⟨0,ye,s⟩++wsF M):=by
  have e1:wsF M=wsF (M.take i)++wsF (M.drop i):=by rw [← aav,List.take_append_drop]
  rw [aav,wsF,e1,← List.append_assoc,← List.append_assoc]
  exact List.perm_append_comm.append_right _
 rw [hcat]
 refine lv (G:=wsP ⟨0,ye,s⟩++(all (wsF M)::pt gw io [v,.slice A7 (i+1+(M.length - i)) c7]::rZ v V::rWn A7 c7 (i+1+(M.length - i)) (M.take i++(⟨0,ye,s⟩:Wn)::M.drop i)::F)) (by subst hye;exact ac 9 [2,3,7,4,5,6] Z Z) ?_
 skip
 refine m5 Z .nil ((ql (A:=wsF (M.take i++(⟨0,ye,s⟩:Wn)::M.drop i)) hperm).trans (ac 4 [1,2,3,0] Z Z)) ?_
 refine ⟨.slice A7 (i+1+(M.length - i)) c7,M.take i++(⟨0,ye,s⟩:Wn)::M.drop i,by simp only [stW,rWs,hM'],?_⟩
 rw [hins,List.map_append,List.map_cons]
 have:nW ⟨0,ye,s⟩=nW ⟨0,e,s⟩:=by rw [← hye];rfl
 rw [this]
end

theorem avf {d:Int × Int} {M:List Wn}:(∀ x∈M,dotW x≠d)→jc d (M.map nW)=none:=fun h=>aeb fun y hy=>by
 obtain ⟨z,hz,rfl⟩:=List.mem_map.1 hy
 exact h z hz
theorem a7q {d:Int × Int} {M:List Wn} {k:Nat} (hk:k<M.length) (hd:dotW M[k]=d) (hnd:(M.map dotW).Nodup):pv d (M.map nW)=(M.take k++M.drop (k+1)).map nW:=by
 have h1:M=M.take k++M[k]::M.drop (k+1):=by rw [← List.drop_eq_getElem_cons hk,List.take_append_drop]
 have h2:M.map nW=(M.take k).map nW++nW M[k]::(M.drop (k+1)).map nW:=by
  conv=>lhs;rw [h1,List.map_append,List.map_cons]
 rw [h2,ato (show dotW (nW M[k])=d from hd) (by
  rw [← h2,List.map_map];exact hnd),List.map_append]
section
variable {b:World} {F:List SP} {gw n:Nat} {V:List Int} {L M:List Wn} {e:Ev} {s:Int} {d:Int × Int}
set_option maxRecDepth 20000 in
set_option maxHeartbeats 4000000 in
theorem a7r {v l:Value} (hq:QI n V (M.map nW)) (he:∀ w,Sat b F w→ER w e) (h32:e.id.length=32) (hd:e.deps.length≤1000000) (hl:e.refs.length≤1000000) :
  SC Tryz.prog vu [.pointer (some ⟨gw,0,none⟩),evV e,.int .i64 s] b (stW gw v l V M F) (fun u F'=>u = .tuple ⟨[.bool (af5 V (M.map nW) e s),.int .i64 (af6 V (M.map nW) e s)]⟩∧∃ l' M',F'=stW gw v l' V M' F∧M'.map nW=xw V (M.map nW) e s):=by
 have hVl:=hq.len
 have h16:=hq.n2
 have hml:=hq.mlen
 have hlM:(M.map nW).length=M.length:=List.length_map _
 refine bf Tryz.func102 Z Z Z <| bt (fun w H=>(H.oat (k:=1) Z).form) ?_
 rintro ⟨Av,cv,rfl,_,_,_⟩
 refine bt (fun w H=>(H.oat (k:=2) Z).form) ?_
 rintro ⟨A,c,rfl,_,_,k4⟩
 refine bd4 <| cq Z Z Z Z Z fun g4=>fq (ac 5 [1,2,3,4,0] Z Z) <| bgi Z Z <| bd3 <| ae <| ae <| b7 flo _ (by decide +kernel) (Ent.refl _) ?_
 refine jm 4 Z Z Z Z Z Z (fd (by rw [cu h32];rfl)) Z Z ?_
 refine ay Z Zl <| ay Z Zl <| ay Z Zl <| ay Z Zl <| de 0 Z Z Z Z <| ay Z Zl <| cz Z Z Z Z (a3u (n:=V.length) (up (fun w H=>(he w H).dv) (ac 5 [] Z Z)) (by omega)) (Ent.refl _) <| ay Z Zl <| az ?_
 cases hf:s7 V.length e s with
 | false =>
  refine aa <| aq Z <| bd4 <| bgi Z Z <| bd3 <| aj <| ag <| ai Z (.tmp Z (.tmp Z .nil)) (ac 5 [0,1,2,3] Z Z) ?_
  refine ⟨?_,_,M,rfl,?_⟩
  ·rw [af5,af6,hf];rfl
  ·rw [xw,if_pos (.inl hf)]
 | true =>
 refine aa <| al Z <| ao <| aa <| bd4 <| bgi Z Z <| df 4 Z Z Z <| bq Z Z Z (aos (d:=(e.r,e.n)) hq.m32 hml) ?_
 rintro u _ ⟨hp0,rfl⟩
 obtain ⟨i,rfl,hp⟩:∃ i:Int,u = .int .i64 i∧((∀ x∈M,dotW x≠(e.r,e.n))∧i = -1∨∃ (k:Nat) (hk:k<M.length),i=k∧dotW M[k]=(e.r,e.n)):=by
  rcases hp0 with ⟨h1,h2⟩ | ⟨k,hk,h1,h2⟩
  ·exact ⟨_,h2,.inl ⟨h1,rfl⟩⟩
  ·exact ⟨_,h1,.inr ⟨k,hk,rfl,h2⟩⟩
 refine af Z <| bd3 <| ae <| ar <| ae <| b7 flo _ (by decide +kernel) (Ent.refl _) <| ay Z Zl <| ay Z Zl <| ay Z Zl <| de 0 Z Z Z Z <| ay Z Zl <| de 4 Z Z Z Z <| cz Z Z Z Z (SC.ofExt fun w H=>aqh (vlZ (k:=1) Z w H)) (Ent.refl _) <| ay Z Zl <| az ?_
 cases hh:u5 V e.r e.n with
 | true =>
  refine aa <| aq Z <| bd4 <| bgi Z Z <| bd3 <| aj <| ap <| ag <| ai Z (.tmp Z (.tmp Z .nil)) (ac 5 [0,1,2,3] Z Z) ?_
  refine ⟨?_,_,M,rfl,?_⟩
  ·rw [af5,af6,hf,hh];rfl
  ·rw [xw,if_pos (.inr hh)]
 | false =>
 clear hp0
 rcases hp with ⟨hno,rfl⟩ | ⟨k,hk,rfl,hkd⟩
 ·have hfw:=avf hno
  refine aa <| al Z <| bd4 <| bgj Z Z Z <| bd3 <| al Z <| bd4 <| bgj Z Z Z <| df 0 Z Z Z <| bgj Z Z Z <| bd3 ?_
  by_cases hm:64≤M.length
  ·refine cm 41 (.bool true) Z (congrArg Value.bool (decide_eq_true (by omega))) <| aq Z <| bd4 <| bgi Z Z <| bd3 <| aj <| ap <| ag <| ai Z (.tmp Z (.tmp Z .nil)) (ac 5 [0,1,2,3] Z Z) ?_
   have hm':¬ (M.map nW).length<64:=by omega
   refine ⟨?_,_,M,rfl,?_⟩
   ·rw [af5,af6,hf,hh,hfw];simp [hm,hm',agn]
   ·rw [xw,hfw,if_neg (by simp [hf,hh]),if_neg (by simp),if_pos (by omega)]
  ·refine cm 41 (.bool false) Z (congrArg Value.bool (decide_eq_false (by omega))) <| al Z <| ao <| ba <| aa <| bd4 <| af Z ?_
   refine dk 4 Z Z Z Z Z Z (fd (by rw [cu h32];rfl)) Z ?_
   refine af Z <| a2l Z Z Z ⟨cu h32,rfl,trivial⟩ ?_
   have hx:=bdw (b:=b) (F:=pt g4 bo (evC e)::F) (gw:=gw) (v:= .slice Av V.length cv) (l:= .slice A M.length c) (V:=V) (M:=M) (e:=e) (s:=s) hq (by omega) (up he (ac 1 [] Z Z)) h32 hd hl
   refine bq Z Z Z (hx) ?_
   rintro _ _ ⟨l',M',rfl,hM'⟩
   refine a8r <| bgi Z Z <| bd3 <| aj <| ai Z (.tmp Z (.tmp Z .nil)) (ac 5 [0,1,2,3] Z Z) ?_
   have hm':M.length<64:=by omega
   refine ⟨?_,l',M',rfl,?_⟩
   ·rw [af5,af6,hf,hh,hfw];simp [hm,hm',agn]
   ·rw [xw,hfw,if_neg (by simp [hf,hh]),if_neg (by simp),if_neg (by omega)];exact hM'
 ·have hfw:jc (e.r,e.n) (M.map nW)=some (nW M[k]):=r6 hq.nd (List.mem_map.2 ⟨_,List.getElem_mem hk,rfl⟩) hkd
  obtain ⟨bk,off,rfl⟩:=k4 (by omega)
  have hx32:=hq.m32 _ (List.getElem_mem hk)
  have hset:spl (afx M) (k*40+39) [.int .i64 s]=afx (M.set k ⟨M[k].g,M[k].e,s⟩):=ard (akj hq.m32) hk (by omega) (by
   obtain ⟨h1,_⟩:=auc (amj (e:=M[k].e) (s:=M[k].src) (s':=s) hx32)
   exact h1)
  have hlen:=az5 hq.m32
  have hsF:wsF (M.set k ⟨M[k].g,M[k].e,s⟩)=wsF M:=by
   have:∀ (l:List Wn) (k:Nat) (hk:k<l.length),wsF (l.set k ⟨l[k].g,l[k].e,s⟩)=wsF l:=by
    intro l
    induction l with
    | nil => intro k hk; simp at hk
    | cons x l ih =>
     intro k hk
     cases k with
     | zero => rfl
     | succ k => simp only [List.set_cons_succ, wsF, List.getElem_cons_succ]; rw [ih k (by simpa using hk)]
   exact this M k hk
  have hMset:(M.set k ⟨M[k].g,M[k].e,s⟩).map nW=(M.map nW).map (oq (e.r,e.n) s):=by
   apply List.ext_getElem
   ·simp
   ·intro j h1 h2
    have hj:j<M.length:=by simpa using h1
    simp only [List.getElem_map,List.getElem_set]
    by_cases hjk:k=j
    ·subst hjk
     rw [if_pos rfl]
     unfold oq
     rw [if_pos (show dotW (nW M[k])=(e.r,e.n) from hkd)];rfl
    ·rw [if_neg hjk]
     unfold oq
     rw [if_neg]
     intro hc
     have hnd:=hq.mnd
     have h5:(M.map dotW)[j]'(by simpa using hj)=(M.map dotW)[k]'(by simpa using hk):=by
      rw [List.getElem_map,List.getElem_map,hkd];exact hc
     exact hjk ((List.getElem_inj hnd).1 h5).symm
  refine aa <| al Z <| bd4 <| bgj Z Z Z <| bd3 <| aq Z <| bd4 <| bgj Z Z Z <| df 0 Z Z Z <| bgi Z Z <| b5 Z (by omega) <| af Z ?_
  refine uf 2 (k*40+39) Z Z Z Z Z Z Z Z hset Z (by rw [bi,j7,Nat.add_assoc]) (by rw [hlen];have:(k+1)*40≤M.length*40:=Nat.mul_le_mul_right _ hk;simp;omega) (by simp [Value.oneCell']) ?_
  refine a8r <| bgi Z Z <| bd3 <| aj <| ap <| ag <| ai Z (.tmp Z (.tmp Z .nil)) (ac 5 [0,1,2,3] Z Z) ?_
  refine ⟨?_,.slice (some ⟨bk,off,none⟩) M.length c,M.set k ⟨M[k].g,M[k].e,s⟩,?_,?_⟩
  ·rw [af5,af6,hf,hh,hfw];rfl
  ·simp only [stW,rWs,List.length_set,hsF]
  ·rw [xw,hfw,if_neg (by simp [hf,hh])];exact hMset
theorem QI.add {n:Nat} {V:List Int} {L:List Wn} {e:Ev} {s:Int} (hq:QI n V L) (hew:EW e) (hl:e.refs.length≤1000000):QI n V (xw V L e s):=by
 unfold xw
 split
 ·exact hq
 ·rename_i h1
  have hf:s7 n e s=true:=by
   rw [← hq.len]
   cases hc:s7 V.length e s with
   | true => rfl
   | false => exact absurd (.inl hc) h1
  have hh:u5 V e.r e.n=false:=by
   cases hc:u5 V e.r e.n with
   | false => rfl
   | true => exact absurd (.inr hc) h1
  split
  ·exact hq.setS hf
  ·rename_i h2
   split
   ·exact hq
   ·exact hq.ins hf hh (by simpa using h2) hew hl (by omega)
set_option maxRecDepth 20000 in
set_option maxHeartbeats 4000000 in
theorem atr {v l:Value} (hq:QI n V (M.map nW)):SC Tryz.prog jz [.pointer (some ⟨gw,0,none⟩),ry d] b (stW gw v l V M F) (fun u F' =>
  (zn V (M.map nW) d≠0∧u = .tuple ⟨[evV ev0,.int .i64 (zn V (M.map nW) d)]⟩∧F'=stW gw v l V M F) ∨
  ∃ w M' l',w∈M∧dotW w=d∧qb w.e.deps V=true∧M'.map nW=pv d (M.map nW)∧u = .tuple ⟨[evV w.e,.int .i64 0]⟩∧F'=rZ w.e.dv w.e.deps::rD w.e.rv w.e.refs::stW gw v l' (me V d.1 d.2) M' F):=by
 have hml:=hq.mlen
 have hVl:=hq.len
 have h16:=hq.n2
 refine bf Tryz.func107 Z Z Z <| bt (fun w H=>(H.oat (k:=1) Z).form) ?_
 rintro ⟨Av,cv,rfl,_,_,kv⟩
 refine bt (fun w H=>(H.oat (k:=2) Z).form) ?_
 rintro ⟨A,c,rfl,_,_,k4⟩
 refine bd4 <| cq Z Z Z Z Z fun g3=> ?_
 skip
 refine ek Z Z Z Z Z fun g4=>fq (ac 6 [2,3,4,5,0,1] Z Z) <| af Z <| a8r <| af Z <| df 5 Z Z Z <| bq Z Z Z (aos (d:=d) hq.m32 hml) ?_
 rintro u _ ⟨⟨hno,rfl⟩ | ⟨k,hk,rfl,hkd⟩,rfl⟩
 ·have hE:zn V (M.map nW) d=26:=by rw [zn,avf hno]
  refine af Z <| bd3 <| ae <| ar <| bd4 <| bgj Z Z Z <| bd3 <| aq Z <| bd4 <| af Z <| iv 4 Z Z Z Z <| af Z <| bd3 <| aj <| ap <| ag <| ai Z (.agg 4 Z Z Z Z Z (.tmp Z .nil)) (ac 6 [0,1,2,3] Z Z) ?_
  exact .inl ⟨by rw [hE];decide,by rw [hE];rfl,rfl⟩
 have hmem:=List.getElem_mem hk
 have hfw:jc d (M.map nW)=some (nW M[k]):=r6 hq.nd (List.mem_map.2 ⟨_,hmem,rfl⟩) hkd
 have hdel:=a7q hk hkd hq.mnd
 have hx32:=hq.m32 _ hmem
 obtain ⟨hxd,_⟩:=hq.md hmem
 obtain ⟨bk,off,rfl⟩:=k4 (by omega)
 have hc:∀ G w,Sat b (stW gw (.slice Av V.length cv) (.slice (some ⟨bk,off,none⟩) M.length c) V M G) w→∀ j,j<40→w.cell? ⟨bk,off+k*40+j,none⟩=(waC M[k])[j]?:=fun G w H j hj=>aku (k:=2) Z Z Z hq.m32 hk hj w H
 have hsplit:(wsF M).Perm (wsP M[k]++wsF (M.take k++M.drop (k+1))):=by
  have h1:M=M.take k++M[k]::M.drop (k+1):=by rw [← List.drop_eq_getElem_cons hk,List.take_append_drop]
  conv=>lhs;rw [h1,aav,wsF]
  rw [aav,← List.append_assoc,← List.append_assoc]
  exact List.perm_append_comm.append_right _
 have hripe:qb M[k].e.deps V=true→_:=fun h=>hq.ripe (x:=nW M[k]) (List.mem_map.2 ⟨_,hmem,rfl⟩) h
 have hE:zn V (M.map nW) d=if qb M[k].e.deps V then 0 else 25:=by rw [zn,hfw];rfl
 have hcells:=akj hq.m32
 generalize M[k]=x at *
 refine af Z <| bd3 <| ae <| ar <| bd4 <| bgj Z Z Z <| bd3 <| al Z <| ae <| b7 flo _ (by decide +kernel) (Ent.refl _) <| ay Z Zl <| ay Z Zl <| ay Z Zl <| de 0 Z Z Z Z <| ay Z Zl <| dj Z Z (by omega) <| ay Z Zl <| ay Z Zl ?_
 refine fu Z (fun w H=>bm Z Z Z (by rw [bi,j7];exact (hc _ w H 2 (by omega)).trans Z)) Z Z ?_
 refine ay Z Zl <| ay Z Zl <| ay Z Zl <| de 0 Z Z Z Z <| cz Z Z Z Z (SC.ofExt fun w H=>ahy (pd (k:=3) Z hmem w H).dv (vlZ (k:=1) Z w H) (by omega)) (Ent.refl _) <| ay Z Zl <| ay Z Zl <| az ?_
 cases hlq:qb x.e.deps V with
 | false =>
  rw [hlq,if_neg (by decide)] at hE
  refine aa <| aq Z <| bd4 <| af Z <| iv 4 Z Z Z Z <| af Z <| bd3 <| aj <| ap <| ag <| ai Z (.agg 4 Z Z Z Z Z (.tmp Z .nil)) (ac 6 [0,1,2,3] Z Z) ?_
  exact .inl ⟨by rw [hE];decide,by rw [hE];rfl,rfl⟩
 | true =>
 obtain ⟨h1,h2,h3,h4,h5⟩:=hripe hlq
 have hdx:d.1=x.e.r∧d.2=x.e.n:=⟨(congrArg Prod.fst hkd).symm,(congrArg Prod.snd hkd).symm⟩
 obtain ⟨q,hqv⟩:∃ q:Nat,d.1 - 1=(q:Int):=⟨(d.1 - 1).toNat,by rw [hdx.1];have:1≤x.e.r:=h1;omega⟩
 have hql:q<V.length:=by have h2':x.e.r≤V.length:=h2;rw [hdx.1] at hqv;omega
 obtain ⟨bv,ov,rfl⟩:=kv (by omega)
 refine aa <| al Z <| ao <| ba <| aa <| bd4 <| bgj Z Z Z <| df 0 Z Z Z <| af Z <| b5 Z (by omega) <| af Z ?_
 refine iu Z (fun w H=>cn (cs:=evC x.e) Z Z Z (cu hx32) (fun j hj=>by rw [cu hx32] at hj;rw [bi,j7];exact (hc _ w H j (by omega)).trans (a5i hx32 hj))) Z ?_
 refine b9 (fun w H=>ave (k:=3) Z w H) fun hMone=> ?_
 have hMones:=atq hMone
 obtain ⟨hxo1,hxo2⟩:=hMone x hmem
 refine ek Z Z Z Z Z fun g7=> ?_
 refine im 0 Z Z Z Z Z Z Z (cu hx32) (kj hxo1 hxo2) (by rw [cu hx32];rfl) ?_
 refine bd3 <| ae <| kt flo 17 (pt gw io [.slice (some ⟨bv,ov,none⟩) V.length cv,.slice (some ⟨bk,off,none⟩) M.length c]::F) [] Z (by decide +kernel) (ac 7 [1] Z Z) <| ay Z Zl <| aur Z Z Z Z Z Z (ac 7 [1] Z Z) fun g41=>agp (iz (n:=0) (sz:=40) Z Z (by decide) 0 Z Z) <| ay Z Zl <| ay Z Zl <| ay Z Zl <| de 0 Z Z Z Z <| ay Z Zl <| dj Z Z (by omega) <| b4 47 (.slice (some ⟨bk,off,none⟩) k c) Z Z <| nz 0 Z Z Z Z Z Z Z Z Z Z (m:=k) (news:=(afx M).take (k*40)) (fun w H=>((H.oat (k:=4) Z).take (by omega)).sl) (fun u hu=>hMones u (List.mem_of_mem_take hu)) (by omega) (fun _=>rfl) (fun _=>ac 8 [2] Z Z) fun v48=> ?_
 rw [Nat.zero_add k,List.nil_append,arb hcells]
 refine ay Z Zl <| ay Z Zl <| ay Z Zl <| de 0 Z Z Z Z <| ay Z Zl <| dj Z Z (by (unfold I64;omega)) <| dj Z Z (by omega) ?_
 have hi1:((k:Int)+1).toNat=k+1:=by omega
 refine b4 55 (.slice (if c=k+1 then (some ⟨bk,off,none⟩:Option Addr) else (some ⟨bk,off,none⟩:Option Addr).map (·.add ((k+1)*40))) (M.length - (k+1)) (c - (k+1))) Z (by rw [hi1]) ?_
 refine nz 0 Z Z Z Z Z Z Z Z Z Z (abp (k:=4) Z (by omega)) (fun u hu=>hMones u (List.mem_of_mem_drop hu)) (by omega) (fun _=>rfl) (fun _=>ac 8 [2] Z Z) fun v56=> ?_
 rw [arc hcells,← mo]
 refine ie (fun w H=>(H.oat (k:=0) Z).form) ?_
 rintro ⟨A7,c7,rfl,_,_,_⟩
 skip
 refine az <| ku Z (dw _) <| ay Z Zl <| ay Z Zl <| ug 2 Z Z Z Z Z Z Z Z Z Z Z (dw _) <| az <| aa <| ae ?_
 have hq1:(d.1 - 1).toNat=q:=by omega
 have hsetV:spl (ad1 V) q [.int .i64 d.2]=ad1 (me V d.1 d.2):=by
  have e:∀ l:List Int,flC (fun x:Int=> [Value.int .i64 x]) l=ad1 l:=fun l=>by
   induction l with
   | nil => rfl
   | cons x l ih => simp only [flC, ih]; rfl
  have:=aaf (f:=fun x:Int=> [Value.int .i64 x]) (l:=V) (sz:=1) (fun _ _=>rfl) (i:=q) (x:=d.2) Z hql
  rw [e,e,Nat.mul_one] at this
  rw [me,hq1];exact this
 refine kt flo 10 _ [] Z (by decide +kernel) (Ent.refl _) <| ay Z Zl <| ay Z Zl <| ay Z Zl <| de 2 Z Z Z Z <| ay Z Zl <| de 7 Z Z Z Z <| dj Z Z (by (unfold I64;omega)) <| ay Z Zl <| de 7 Z Z Z Z <| dj Z Z (by omega) <| az <| ku Z (dw _) ?_
 refine abo 3 q Z Z Z Z Z Z Z Z Z hsetV Z (by rw [bi,hq1,Nat.mul_one]) (by simp [ad1];omega) (by simp [Value.oneCell']) (dw _) ?_
 refine az <| aa <| bd4 ?_
 refine dk 1 Z Z Z Z Z Z (fd (by rw [cu hx32];rfl)) Z ?_
 refine im 6 Z Z Z Z Z Z Z (cu hx32) (kj hxo1 hxo2) (by rw [cu hx32];rfl) ?_
 refine af Z <| bd3 <| aj ?_
 have hlen2:(M.take k++M.drop (k+1)).length=k+(M.length - (k+1)):=by simp;omega
 have hVlen:(me V d.1 d.2).length=V.length:=by simp [me]
 refine ai Z (.whole 6 Z Z Z Z (by rw [cu hx32];rfl) (.tmp Z .nil)) ((ac 8 [5,0,2,3] Z Z).trans ((tz (A:=wsF M) (B:=wsP x) (C:=wsF (M.take k++M.drop (k+1))) hsplit).trans (ac 6 [0,1,4,5,3,2] Z Z))) ?_
 refine .inr ⟨x,M.take k++M.drop (k+1),.slice A7 (k+(M.length - (k+1))) c7,hmem,hkd,hlq,hdel.symm,rfl,?_⟩
 simp only [stW,rWs,rZ,hlen2,hVlen]
end

section
variable {b:World} {F:List SP} {gw n:Nat} {V:List Int} {L M:List Wn} {e:Ev} {s:Int} {d:Int × Int}
theorem ats:SC Tryz.prog jz [.pointer (some ⟨gw,0,none⟩),ry d] b (rqu gw n V L::F) (fun u F' =>
  (zn V L d≠0∧u = .tuple ⟨[evV ev0,.int .i64 (zn V L d)]⟩∧F'=rqu gw n V L::F) ∨
  ∃ x w,jc d L=some x∧qb x.e.deps V=true∧nW w=x∧u = .tuple ⟨[evV w.e,.int .i64 0]⟩∧F'=rZ w.e.dv w.e.deps::rD w.e.rv w.e.refs::rqu gw n (me V d.1 d.2) (pv d L)::F):=by
 refine SC.opn ?_
 rintro ⟨v,l,M⟩ ⟨hq,hM⟩
 dsimp only at hM
 subst hM
 refine (atr hq).out ?_
 rintro u _ (⟨h1,h2,rfl⟩ | ⟨w,M',l',h1,h2,h3,h4,h5,rfl⟩)
 ·exact ⟨_,akw hq rfl,.inl ⟨h1,h2,rfl⟩⟩
 ·have hmem:nW w∈M.map nW:=List.mem_map.2 ⟨w,h1,rfl⟩
  have hqd:QI n (me V d.1 d.2) (pv d (M.map nW)):=by
   have:=hq.del hmem h3
   rw [← h2];exact this
  exact ⟨_,ik (ik (akw hqd h4)),.inr ⟨nW w,w,r6 hq.nd hmem h2,h3,rfl,h5,rfl⟩⟩
end

theorem EW.of_nW {w x:Wn} (h:nW w=x) (hx:EW x.e):EW w.e:=by
 subst h
 exact ⟨hx.id,hx.dot,hx.rf,hx.kind,hx.dp,hx.rs,hx.ts⟩
theorem a7s:EW ev0:=⟨⟨rfl,fun x hx=>by rw [(List.mem_replicate.1 hx).2];decide⟩,⟨by decide,by decide⟩,fun x hx=>by simp at hx,(by unfold I64;decide),fun x hx=>by simp at hx,by decide,by decide⟩
section
variable {b:World} {F:List SP} {gq gw n:Nat} {V:List Int} {L M:List Wn} {e:Ev} {s:Int} {d:Int × Int} {gl:Nat}
theorem a3v (h:e.id.length=32):Ent (pt gl bo (evC e)::rZ e.dv e.deps::rD e.rv e.refs::F) (rEs (.slice (some ⟨gl,0,none⟩) 1 1) [e]::all (evF [e])::F):=by
 have e1:ag9 [e]=evC e:=by simp [flC]
 rw [rEs,e1]
 exact (iz (n:=1) (sz:=39) Z (by rw [cu h]) (by decide) 0 Z Z).trans (ik (ji (G:=evF [e])))
theorem arf:Ent F (rZ (.slice none 0 0) []::rD (.slice none 0 0) []::F):=(eh t_api_ID 32 Z).trans (eh fe 1 Z)
theorem ahc {k:Nat} (hk:nth F k=some (que gq n V L)):∀ w,Sat b F w→QI n V L:=fun w H=>by
 obtain ⟨h1,_,s,hs,_⟩:=H.mem.get hk
 exact hs.1
theorem QI.lds (hq:QI n V L) {x:Wn} (hx:x∈L):x.e.deps.length≤1000000∧x.e.refs.length≤1000000:=by
 have h1:=of_decide_eq_true (hq.fit x hx)
 have h7:x.e.deps.length=n:=h1.2.2.2.2.2.2.1
 have h16:=hq.n2
 exact ⟨by omega,hq.rf x hx⟩
theorem ER.of_rows {i j:Nat} (hi:nth F i=some (rZ e.dv e.deps)) (hj:nth F j=some (rD e.rv e.refs)):∀ w,Sat b F w→ER w e:=fun w H=>⟨vlZ hi w H,(H.oat hj).sl⟩
end

def ahd (d:Int × Int) (L:List Wn):Ev × Int × Bool:=match jc d L with
 | none => (nE ev0, 0, false)
 | some x => (nE x.e, x.src, true)
structure Hs (d:Int × Int) (L:List Wn) (y:Ev) (s:Int) (is:Bool):Prop where
 eq:(nE y,s,is)=ahd d L
 ew:EW y
 ln:y.deps.length≤1000000∧y.refs.length≤1000000
section
variable {b:World} {F:List SP} {gq gw n:Nat} {V:List Int} {L M:List Wn} {e:Ev} {s:Int} {d:Int × Int} {gl:Nat}
theorem avg (hq:QI n V L) {x:Wn} (h:jc d L=some x) (dv rv:Value):Hs d L (x.e.own dv rv) x.src true :=
 ⟨by rw [ahd,h];rfl,(hq.ew x (fg h).1).own dv rv,hq.lds (fg h).1⟩
theorem avh (h:jc d L=none):Hs d L ev0 0 false:=⟨by rw [ahd,h],a7s,by decide,by decide⟩
theorem af9 (hd:j8 d) (hq:QI n V L):SC Tryz.prog o4 [.pointer (some ⟨gq,0,none⟩),ry d] b (que gq n V L::F) (fun u F'=>∃ y s is,Hs d L y s is∧u = .tuple ⟨[.agg ⟨wsC y s⟩,.bool is]⟩∧F'=rZ y.dv y.deps::rD y.rv y.refs::que gq n V L::F):=by
 refine (a3r hd).out ?_
 rintro u _ (⟨h1,h2,rfl⟩ | ⟨x,dv,rv,h1,h2,rfl⟩)
 ·exact ⟨_,arf,ev0,0,false,avh h1,h2,rfl⟩
 ·exact ⟨_,Ent.refl _,x.e.own dv rv,x.src,true,avg hq h1 dv rv,h2,rfl⟩
theorem ux {i j:Nat} (hi:nth F i=some (rZ e.dv e.deps)) (hj:nth F j=some (rD e.rv e.refs)):∀ w,Sat b F w→e.dv.oneCell'=true∧e.rv.oneCell'=true:=fun w H=>by
 obtain ⟨A,c,hv,_⟩:=(ER.of_rows hi hj w H).dv.form
 obtain ⟨A2,c2,hv2,_⟩:=du (ER.of_rows hi hj w H).rv
 rw [hv,hv2];exact ⟨rfl,rfl⟩
end

structure Ac where
 kind:Int
 n:Int
 e:Ev
theorem ac7 {n:Nat} {V:List Int} {L:List Wn} (hq:QI n V L) {d:Int × Int} (hd:d∈gn V L):j8 d:=by
 unfold gn at hd
 obtain ⟨w,hw,rfl⟩:=List.mem_map.1 hd
 exact hq.dotOk (List.mem_filter.1 hw).1
section
variable {b:World} {F:List SP} {gq gw n:Nat} {V:List Int} {L M:List Wn} {a:Ac}
end

section
variable {b:World} {F:List SP} {gq gw n:Nat} {V:List Int} {L M:List Wn} {e:Ev} {s:Int} {d:Int × Int}
end

abbrev Em:=Int × Int × List Int
def cnt (q:Int) (A:List Em):Int:=((A.filter fun e=>decide (e.1=q)).length:Int)
structure Md (n:Nat) (A:List Em):Prop where
 r:∀ i (hi:i<A.length),1≤A[i].1∧A[i].1≤n
 m:∀ i (hi:i<A.length),A[i].2.1=cnt A[i].1 (A.take i)+1
 len:∀ i (hi:i<A.length),A[i].2.2.length=n
 own:∀ i (hi:i<A.length),A[i].2.2.getD (A[i].1 - 1).toNat 0=A[i].2.1 - 1
 dep:∀ i (hi:i<A.length) (q:Nat),q<n→0≤A[i].2.2.getD q 0∧A[i].2.2.getD q 0≤cnt ((q:Int)+1) (A.take i)
section
variable {n:Nat} {A:List Em} (hm:Md n A)
include hm
end
theorem ait {α:Type}:∀ {l l':List α},l.Nodup→(∀ x∈l,x∈l')→l.length≤l'.length
 | [], _, _, _ => by simp
 | a :: l, l', h, hs => by
  obtain ⟨s,t,rfl⟩:=List.append_of_mem (hs a List.mem_cons_self)
  rw [List.nodup_cons] at h
  have:=ait (l':=s++t) h.2 (fun x hx=>by
   have h1:=hs x (List.mem_cons_of_mem _ hx)
   rcases List.mem_append.1 h1 with h1 | h1
   ·exact List.mem_append_left _ h1
   ·rcases List.mem_cons.1 h1 with rfl | h1
    ·exact absurd hx h.1
    ·exact List.mem_append_right _ h1)
  simp only [List.length_cons,List.length_append] at this ⊢
  omega
abbrev em (e:Ev):Em:=(e.r,e.n,e.deps)
structure Qp (A:List Em) (V:List Int) (L:List Wn) (out:List Ev):Prop where
 inA:∀ w∈L,em w.e∈A
 outA:∀ e∈out,em e∈A
 und:∀ e∈out,u5 V e.r e.n=true
 dl:∀ e∈out,qb e.deps V=true
 del:∀ q m,u5 V q m=true→∃ e∈out,e.r=q∧e.n=m
 ord:out.Pairwise fun a c=>u5 a.deps c.r c.n=false∧¬ (a.r=c.r∧a.n=c.n)
 self:∀ e∈out,u5 e.deps e.r e.n=false
 ew:∀ e∈out,EW e
section
variable {n:Nat} {A:List Em} {V:List Int} {L:List Wn} {out:List Ev} (hq:QI n V L) (hp:Qp A V L out)
include hq hp in
end
end Go.Proofs.YtdmfcnjgdicncaaGreat
