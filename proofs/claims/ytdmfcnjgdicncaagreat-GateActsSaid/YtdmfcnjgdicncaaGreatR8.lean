/- Events as bytes: the program's Encode. Conditions: numbers of 64 bits; not too many. -/
import Derived.Test.YtdmfcnjgdicncaaGreatR7
import Derived.Test.YtdmfcnjgdicncaaGreatR5
import Derived.Test.YtdmfcnjgdicncaaGreatR0
import Derived.Test.YtdmfcnjgdicncaaGreatR6
namespace Go.Proofs.YtdmfcnjgdicncaaGreat
open Go Go.Eng Go.RowKit

theorem aop {x:Int} (h:(Lit.int .i64 x).wf=true):I64 x:=(ahs x).1 h
structure EvL (e:Ev):Prop where
 dn:e.deps.length≤1000000
 rn:e.refs.length≤1000000
 ps:e.repo.size≤1000000
 ts:e.tag.size≤1000000
section
variable {b:World} {F:List SP} {e:Ev}
end

instance:EqT Tryz.prog t_api_Fault:=⟨by kernel_rfl⟩
set_option maxRecDepth 100000 in
theorem af3 (a b c d:Int) (w:World):(Op.equalIn 10000 t_api_Fault (ftV (a,b)) (ftV (c,d))).run Tryz.prog w = .ok (decide (a=c∧b=d)) w:=by
 have hS:Tryz.prog.underlying t_api_Fault=some (.struct (Tryz.prog.fieldsOf t_api_Fault)):=by kernel_rfl
 have hp:Tryz.prog.stoodInHeld t_api_Fault=false:=by kernel_rfl
 have hf : ∃ f g : Field, (Tryz.prog.fieldsOf t_api_Fault).toList = [f, g] ∧ f.name ≠ "_" ∧ g.name ≠ "_" ∧ f.type = un ∧ g.type = fe ∧ f.offset = 0 ∧ g.offset = 1 :=
  ⟨_,_,rfl,by decide,by decide,rfl,rfl,rfl,rfl⟩
 obtain ⟨f,g,h1,h2,h3,h4,h5,h6,h7⟩:=hf
 have ui:Tryz.prog.underlying fe=some (.int .i64):=by kernel_rfl
 have ue:Tryz.prog.underlying un=some (.int .i64):=by kernel_rfl
 rw [show (10000:Nat)=9998+1+1 from rfl,run_equalIn_struct w 9999 t_api_Fault _ _ hS hp,h1]
 have p0:∀ (x y:Int),(part un #[.int .i64 x,.int .i64 y] 0).run Tryz.prog w = .ok (.int .i64 x) w:=fun x y=>by simp [part,isAgg,run_underlying ue]
 have p1:∀ (x y:Int),(part fe #[.int .i64 x,.int .i64 y] 1).run Tryz.prog w = .ok (.int .i64 y) w:=fun x y=>by simp [part,isAgg,run_underlying ui]
 have q:∀ x y:Int,(Op.equalIn 9999 fe (.int .i64 x) (.int .i64 y)).run Tryz.prog w = .ok (x == y) w:=fun x y=>run_equalIn_int w 9998 fe .i64 .i64 x y ui
 have q0:∀ x y:Int,(Op.equalIn 9999 un (.int .i64 x) (.int .i64 y)).run Tryz.prog w = .ok (x == y) w:=fun x y=>run_equalIn_int w 9998 un .i64 .i64 x y ue
 simp only [Op.eqFields,h2,h3,h4,h5,h6,h7,ne_eq,not_false_eq_true,if_true,Sem.run_bind,p0,p1,q,q0,Result.andThen_ok]
 by_cases e1:a=c <;> by_cases e2:b=d <;> simp [e1,e2,p1,q]
theorem a3d {F G:List SP} {v:Value} {n:Nat} {cs:List Value} {l:List (List Int)} (k:Nat) (hk:nth F k=some (row t_api_ID 32 v n cs)) (hl:n=l.length) (hc:cs=et l) (hG:jv F k (rD v l)=some G):Ent F G:=by
 subst hl;subst hc;exact pk k hk (fun _ h=>h) hG
section
variable {b:World} {F:List SP} {B:List Int}
end

section
variable {b:World} {F:List SP} {e:Ev}
theorem jt {gA oA c:Nat} {l:List (List Int)} (h:∀ w,Sat b F w→SL w 32 (.slice (some ⟨gA,oA,none⟩) l.length c) l.length (et l)) (hl:fw l) {i:Nat} (hi:i<l.length):∀ w,Sat b F w→∀ j,j<32→w.cell? ⟨gA,oA+i*32+j,none⟩=(u8s l[i])[j]? :=
 fun w H j hj=>lr (f:=u8s) (by rw [← oj];exact h w H) (fun a h=>by rw [bg,hl a h]) hi hj
theorem atm {x:Int}:SC Tryz.prog agx [.int .i64 x] b F (fun v F'=>v = .bool (!okNum x)∧F'=F):=by
 refine bf Tryz.func162 Z Z Z <| bd4 <| af Z <| a8r <| bgj Z Z Z ?_
 refine f0 5 Z (fun h=> ?_) (fun h=> ?_)
 ·refine bgj Z Z Z <| af Z <| bd3 <| aj <| ai Z (.tmp Z .nil) (Ent.refl _) ?_
  exact ⟨congrArg Value.bool (by simp only [okNum];rw [decide_eq_false (show ¬ 0≤x by omega)];rfl),rfl⟩
 ·refine bgj Z Z Z <| af Z <| bd3 <| aj <| ai Z (.tmp Z .nil) (Ent.refl _) ?_
  exact ⟨congrArg Value.bool (by simp only [okNum];rw [decide_eq_true (show 0≤x by omega),Bool.true_and,Bool.eq_iff_iff];simp),rfl⟩
set_option maxHeartbeats 1000000 in
theorem aw3 {n:Int} (he:∀ w,Sat b F w→ER w e) (hd:j8 (e.r,e.n)) (hl:e.deps.length≤1000000):SC Tryz.prog aju [evV e,.int .i64 n] b F (fun v F'=>v = .bool (mq e n)∧F'=F):=by
 have d1:=aop hd.1;have d2:=aop hd.2
 unfold I64 at d1 d2
 dsimp only at d1 d2
 refine bf Tryz.func119 Z Z Z <| bt (fun w H=>(he w H).dv.form) ?_
 rintro ⟨A,c,hdv,h1,h2,h3,h4⟩
 refine bd4 <| cq Z Z Z Z Z fun g2=>af Z <| a8r <| af Z <| df 0 Z Z Z <| ek Z Z Z Z Z fun g5=>iv 0 Z Z Z Z <| bd3 <| ae <| bd4 <| af Z <| df 0 Z Z Z <| bgi Z Z ?_
 by_cases k1:e.r<1
 ·refine a9 11 (.bool true) Z (congrArg Value.bool (decide_eq_true k1)) ?_
  (iterate 22 refine af Z ?_)
  refine bd3 <| aq Z <| bd4 <| af Z <| bd3 <| aj <| ag <| ai Z (.tmp Z .nil) (ac 2 [] Z Z) ?_
  exact ⟨congrArg Value.bool (by unfold mq;rw [decide_eq_false (by omega)];rfl),rfl⟩
 refine a9 11 (.bool false) Z (congrArg Value.bool (decide_eq_false k1)) <| af Z <| df 0 Z Z Z <| bgj Z Z Z <| af Z ?_
 by_cases k2:n<e.r
 ·refine a9 17 (.bool true) Z (congrArg Value.bool (decide_eq_true k2)) ?_
  (iterate 16 refine af Z ?_)
  refine bd3 <| aq Z <| bd4 <| af Z <| bd3 <| aj <| ag <| ai Z (.tmp Z .nil) (ac 2 [] Z Z) ?_
  exact ⟨congrArg Value.bool (by unfold mq;rw [decide_eq_false (by omega)];rfl),rfl⟩
 refine a9 17 (.bool false) Z (congrArg Value.bool (decide_eq_false k2)) <| af Z <| df 0 Z Z Z <| bgj Z Z Z ?_
 by_cases k3:e.n<1
 ·refine a9 22 (.bool true) Z (congrArg Value.bool (decide_eq_true k3)) ?_
  (iterate 11 refine af Z ?_)
  refine bd3 <| aq Z <| bd4 <| af Z <| bd3 <| aj <| ag <| ai Z (.tmp Z .nil) (ac 2 [] Z Z) ?_
  exact ⟨congrArg Value.bool (by unfold mq;rw [decide_eq_false (by omega)];rfl),rfl⟩
 refine a9 22 (.bool false) Z (congrArg Value.bool (decide_eq_false k3)) <| af Z <| df 0 Z Z Z <| bgj Z Z Z ?_
 by_cases k4:1048576<e.n
 ·refine a9 27 (.bool true) Z (congrArg Value.bool (decide_eq_true k4)) ?_
  (iterate 6 refine af Z ?_)
  refine bd3 <| aq Z <| bd4 <| af Z <| bd3 <| aj <| ag <| ai Z (.tmp Z .nil) (ac 2 [] Z Z) ?_
  exact ⟨congrArg Value.bool (by unfold mq;rw [decide_eq_false (by omega)];rfl),rfl⟩
 refine a9 27 (.bool false) Z (congrArg Value.bool (decide_eq_false k4)) ?_
 have her:∀ w,Sat b (pt g5 t_api_Dot [.int .i64 e.r,.int .i64 e.n]::pt g2 bo (evC e)::F) w→VL (Value.int .i64) w (.slice A e.deps.length c) e.deps:=fun w H=>by rw [← hdv];exact (he w (H.ent (ac 2 [] Z Z))).dv
 refine af Z <| df 1 Z Z Z ?_
 rw [hdv]
 refine bgj Z Z Z <| af Z <| bd3 ?_
 refine abg Z (fun k5=> ?_) (fun k5=> ?_)
 ·refine bd4 <| af Z <| bd3 <| aj <| ag <| ai Z (.tmp Z .nil) (ac 2 [] Z Z) ?_
  exact ⟨congrArg Value.bool (by unfold mq;rw [decide_eq_false (by omega)];rfl),rfl⟩
 have k0:decide (1≤e.r∧e.r≤n∧1≤e.n∧e.n≤1048576∧(e.deps.length:Int)=n)=true:=decide_eq_true (by omega)
 obtain ⟨bk,off,rfl⟩:=h4 (by omega)
 refine ao <| aa <| ae <| b7 flo _ (by decide +kernel) (Ent.refl _) <| ay Z Zl <| de 1 Z Z Z Z ?_
 rw [hdv]
 refine cz Z Z Z Z ((a7e (fun _ _=>atm) her (by omega))) (Ent.refl _) ?_
 have hany:(!e.deps.any fun x=> !okNum x)=e.deps.all okNum:=by
  rw [Bool.eq_iff_iff];simp [List.any_eq_false,List.all_eq_true]
 refine ay Z Zl <| ay Z Zl <| b4 38 (.bool (e.deps.all okNum)) Z (congrArg Value.bool hany) ?_
 cases hall:e.deps.all okNum with
 | false =>
  (iterate 13 refine ay Z Zl ?_)
  refine az <| aa <| aj <| ai Z (.tmp Z .nil) (ac 2 [] Z Z) ?_
  exact ⟨congrArg Value.bool (by unfold mq;rw [hall];simp),rfl⟩
 | true =>
  have hi:(e.r - 1).toNat<e.deps.length:=by omega
  have hg:e.deps[(e.r - 1).toNat]?.getD 0=e.deps[(e.r - 1).toNat]:=by rw [List.getElem?_eq_getElem hi];rfl
  refine ay Z Zl <| de 1 Z Z Z Z <| ay Z Zl <| de 0 Z Z Z Z <| dj Z Z (by (unfold I64;omega)) ?_
  rw [hdv]
  refine dj Z Z (by omega) ?_
  refine fu Z (fun w H=>bm Z Z Z (by rw [bi];simpa using VL.at (her w H) (e.r - 1).toNat hi)) Z Z ?_
  refine ay Z Zl <| de 0 Z Z Z Z <| dj Z Z (by (unfold I64;omega)) <| ay Z Zl <| ay Z Zl <| ay Z Zl <| az <| aa <| aj <| ai Z (.tmp Z .nil) (ac 2 [] Z Z) ?_
  exact ⟨congrArg Value.bool (by unfold mq;rw [hall,k0,hg];simp),rfl⟩
set_option maxHeartbeats 1000000 in
theorem aw4 {va:Value} {l:List (List Int)} {x:List Int} (ha:∀ w,Sat b F w→SL w 32 va l.length (et l)) (hl:fw l) (hx:x.length=32) (hm:l.length≤1000000) :
  SC Tryz.prog sk [va,idV x] b F (fun v F'=>(∃ i:Int,v = .int .i64 i∧decide (0≤i)=decide (x∈l))∧F'=F):=by
 refine bf Tryz.func115 Z Z Z <| bt (fun w H=>du (ha w H)) ?_
 rintro ⟨A,c,rfl,h1,h2,h3,h4,_⟩
 refine bd4 <| cq Z Z Z Z Z fun g3=>af Z <| bd3 <| ae <| bd4 <| bgj Z Z Z <| bd3 <| ar ?_
 refine b6 (S:=Nat) (fun i=> [(0,.slice A l.length c),(3,.pointer (some ⟨g3,0,none⟩)),(7,.int .i64 l.length),(8,.int .i64 (i:Int))]) (fun _=>pt g3 t_api_ID (u8s x)::F) (fun i=>i≤l.length∧x∉l.take i) (fun i=>l.length - i) 0 ⟨rfl,rfl,rfl,rfl,trivial⟩ (Ent.refl _) ⟨Nat.zero_le _,by simp⟩ ?_
 rintro i ⟨hi,hk⟩
 refine bd4 <| af Z <| bd3 <| ae ?_
 refine di Z (fun h=> ?_) (fun h=> ?_)
 ·have h':i<l.length:=by omega
  obtain ⟨gA,oA,rfl⟩:=h4 (by omega)
  have ca:=jt ha hl h'
  have hy:=hl _ (List.getElem_mem h')
  have hmem:=List.getElem_mem h'
  have htk:=List.take_succ_eq_append_getElem h'
  generalize l[i]=y at ca hy hmem htk
  refine ao <| aa <| ae <| ar <| bd4 <| bgi Z Z <| bd3 <| ae <| b7 flo _ (by decide +kernel) (Ent.refl _) <| jm 0 Z Z Z Z Z Z (ig hx) Z Z <| ay Z Zl <| ay Z Zl <| dj Z Z (by omega) ?_
  refine fu Z (fun w H=>cn (cs:=u8s y) Z Z Z (by rw [bg,hy];rfl) (fun j hj=>by rw [bi,Int.toNat_natCast];exact ca w (H.ent (ac 1 [] Z Z)) j (by rw [bg,hy] at hj;exact hj))) Z Z ?_
  refine qz Z (yi (as00:=x) (bs:=y) Z Z hx hy) Z Z ?_
  by_cases hxy:x=y
  ·refine b4 16 (.bool true) Z (congrArg Value.bool (decide_eq_true hxy)) <| az <| aa <| aq Z <| bd4 <| bgi Z Z <| bd3 <| aj <| ap <| ag <| da <| ap <| ag <| ai Z (.tmp Z .nil) (ac 1 [] Z Z) ?_
   exact ⟨⟨i,rfl,by rw [decide_eq_true (by omega),decide_eq_true (by rw [hxy];exact hmem)]⟩,rfl⟩
  ·refine b4 16 (.bool false) Z (congrArg Value.bool (decide_eq_false hxy)) <| az <| aa <| al Z <| ao <| ba <| aa <| ab <| b5 Z (by (unfold I64;omega)) <| af Z <| ad <| bj (i+1) ⟨rfl,rfl,rfl,rfl,trivial⟩ (Ent.refl _) ⟨h',?_⟩ (by omega)
   rw [htk]
   simp [hk,hxy]
 ·refine bu <| av <| ax <| au <| aa <| bd4 <| af Z <| bd3 <| aj <| ai Z (.tmp Z .nil) (ac 1 [] Z Z) <| ⟨⟨-1,rfl,?_⟩,rfl⟩
  rw [List.take_of_length_le (by omega)] at hk
  rw [decide_eq_false hk];rfl
theorem wa {va:Value} {l:List (List Int)} {x:List Int} (ha:∀ w,Sat b F w→SL w 32 va l.length (et l)) (hl:fw l) (hx:x.length=32) (hm:l.length≤1000000) :
  SC Tryz.prog qn [va,idV x] b F (fun v F'=>v = .bool (decide (x∈l))∧F'=F):=by
 refine bf Tryz.func61 Z Z Z <| bd4 <| cq Z Z Z Z Z fun g3=>af Z <| a8r <| af Z <| dk 0 Z Z Z Z Z Z (ig hx) Z <| bq Z Z Z (aw4 (up ha (ac 1 [] Z Z)) hl hx hm) ?_
 rintro _ _ ⟨⟨i,rfl,hi⟩,rfl⟩
 refine bgi Z Z <| bd3 <| aj <| ai Z (.tmp Z .nil) (ac 1 [] Z Z) ?_
 exact ⟨congrArg Value.bool hi,rfl⟩
theorem a3e {x:List Int} {w0:Int} {g5:Nat} (hx:x.length=32):SC Tryz.prog abz [idV x,.pointer (some ⟨g5,0,none⟩)] b (pt g5 fe [.int .i64 w0]::F) (fun v F'=>v = .bool (!uq x w0)∧F'=pt g5 fe [.int .i64 w0]::F):=by
 refine bf Tryz.func170 Z Z Z <| bd4 <| cq Z Z Z Z Z fun g2=>af Z <| a8r <| dk 0 Z Z Z Z Z Z (ig hx) Z <| df 1 Z Z Z <| bh Z Z Z (a5b hx) <| bgi Z Z <| bd3 <| aj <| ai Z (.tmp Z .nil) (ac 1 [] Z Z) ?_
 exact ⟨rfl,rfl⟩
abbrev atn (g5:Nat):Value:= .func (.func abz) ⟨[]⟩ ⟨[.pointer (some ⟨g5,0,none⟩)]⟩
theorem a3f {va:Value} {l:List (List Int)} {w0:Int} {g5:Nat} (ha:∀ w,Sat b (pt g5 fe [.int .i64 w0]::F) w→SL w 32 va l.length (et l)) (hl:fw l) (hm:l.length≤1000000) :
  SC Tryz.prog lf [va,atn g5] b (pt g5 fe [.int .i64 w0]::F) (fun v F'=>(∃ i:Int,v = .int .i64 i∧decide (0≤i) = !(l.all fun x=>uq x w0))∧F'=pt g5 fe [.int .i64 w0]::F):=by
 refine bf Tryz.func118 Z Z Z <| bt (fun w H=>du (ha w H)) ?_
 rintro ⟨A,c,rfl,h1,h2,h3,h4,_⟩
 refine bd4 <| af Z <| bd3 <| ae <| bd4 <| bgj Z Z Z <| bd3 <| ar <| b6 (S:=Nat) (fun i=> [(0,.slice A l.length c),(1,atn g5),(7,.int .i64 l.length),(8,.int .i64 (i:Int))]) (fun _=>pt g5 fe [.int .i64 w0]::F) (fun i=>i≤l.length∧((l.take i).all fun x=>uq x w0)=true) (fun i=>l.length - i) 0 ⟨rfl,rfl,rfl,rfl,trivial⟩ (Ent.refl _) ⟨Nat.zero_le _,rfl⟩ ?_
 rintro i ⟨hi,hk⟩
 refine bd4 <| af Z <| bd3 <| ae ?_
 refine di Z (fun h=> ?_) (fun h=> ?_)
 ·have h':i<l.length:=by omega
  obtain ⟨gA,oA,rfl⟩:=h4 (by omega)
  have ca:=jt ha hl h'
  have hy:=hl _ (List.getElem_mem h')
  have hmem:=List.getElem_mem h'
  have htk:=List.take_succ_eq_append_getElem h'
  generalize l[i]=y at ca hy hmem htk
  refine ao <| aa <| ae <| ar <| bd4 <| bgi Z Z <| a8r <| bgj Z Z Z <| b5 Z (by omega) ?_
  refine iu Z (fun w H=>cn (cs:=u8s y) Z Z Z (by rw [bg,hy];rfl) (fun j hj=>by rw [bi,Int.toNat_natCast];exact ca w H j (by rw [bg,hy] at hj;exact hj))) Z ?_
  refine bh Z Z Z (a3e hy) ?_
  cases hh:uq y w0 with
  | false =>
   refine bd3 <| aq Z <| bd4 <| bgi Z Z <| bd3 <| aj <| ap <| ag <| da <| ap <| ag <| ai Z (.tmp Z .nil) (Ent.refl _) <| ⟨⟨i,rfl,?_⟩,rfl⟩
   rw [decide_eq_true (by omega),eq_comm]
   cases hall:l.all fun x=>uq x w0 with
   | false => rfl
   | true => have := List.all_eq_true.1 hall y hmem; rw [hh] at this; cases this
  | true =>
   refine bd3 <| al Z <| ao <| ba <| aa <| ab <| b5 Z (by (unfold I64;omega)) <| af Z <| ad <| bj (i+1) ⟨rfl,rfl,rfl,rfl,trivial⟩ (Ent.refl _) ⟨h',?_⟩ (by omega)
   rw [htk,List.all_append,hk]
   simp [hh]
 ·refine bu <| av <| ax <| au <| aa <| bd4 <| af Z <| bd3 <| aj <| ai Z (.tmp Z .nil) (Ent.refl _) <| ⟨⟨-1,rfl,?_⟩,rfl⟩
  rw [List.take_of_length_le (by omega)] at hk
  rw [hk];rfl
theorem a3g {va:Value} {l:List (List Int)} {w0:Int} {g5:Nat} (ha:∀ w,Sat b (pt g5 fe [.int .i64 w0]::F) w→SL w 32 va l.length (et l)) (hl:fw l) (hm:l.length≤1000000) :
  SC Tryz.prog kg [va,atn g5] b (pt g5 fe [.int .i64 w0]::F) (fun v F'=>v = .bool (!(l.all fun x=>uq x w0))∧F'=pt g5 fe [.int .i64 w0]::F):=by
 refine bf Tryz.func65 Z Z Z <| bd4 <| af Z <| a8r <| bgi Z Z <| bq Z Z Z (a3f ha hl hm) ?_
 rintro _ _ ⟨⟨i,rfl,hi⟩,rfl⟩
 refine bgi Z Z <| bd3 <| aj <| ai Z (.tmp Z .nil) (Ent.refl _) ?_
 exact ⟨congrArg Value.bool hi,rfl⟩
end

abbrev fnV (f:Nat):Value:= .func (.func f) ⟨[]⟩ ⟨[]⟩
def a0a:List Value:= [fnV qa,fnV mh,.bool true,fnV qa,fnV mh,.bool false,fnV pa,fnV mh,.bool true,fnV pa,fnV aam,.bool false]
theorem aks {l:List (List Int)} (h:∀ i,i+1<l.length→jd (l[i]?.getD []) (l[i+1]?.getD [])<0):aea l=true:=by
 unfold aea
 rw [List.all_eq_true]
 intro i hi
 have:=List.mem_range.1 hi
 exact decide_eq_true (h i (by omega))
theorem ah5 {l:List (List Int)} {i:Nat} (hi:i+1<l.length) (h:¬ jd (l[i]?.getD []) (l[i+1]?.getD [])<0):aea l=false:=by
 cases hr:aea l with
 | false => rfl
 | true =>
  unfold aea at hr
  have:=List.all_eq_true.1 hr i (List.mem_range.2 (by omega))
  exact absurd (of_decide_eq_true this) h
section
variable {b:World} {F:List SP} {e:Ev}
theorem aq7 {s:ByteArray}:SC Tryz.prog qa [.string s] b F (fun v F'=>v = .int .i64 (if s.size=0 then 0 else 2)∧F'=F):=by
 refine bf Tryz.func166 Z Z Z <| bd4 <| af Z <| bd3 <| ae <| bd4 <| bgi Z Z <| bd3 ?_
 refine abg Z (fun h1=> ?_) (fun h1=> ?_)
 ·have hz:s.size≠0:=fun h0=>h1 (by first | exact Array.eq_empty_of_size_eq_zero h0 | exact ByteArray.ext (Array.eq_empty_of_size_eq_zero h0))
  refine bd4 <| af Z <| bd3 <| aj <| ag <| ai Z (.tmp Z .nil) (Ent.refl _) ?_
  rw [if_neg hz];exact ⟨rfl,rfl⟩
 ·have hz:s.size=0:=by show s.data.size=0;rw [h1];rfl
  refine ao <| aa <| bd4 <| af Z <| bd3 <| aj <| ai Z (.tmp Z .nil) (Ent.refl _) ?_
  rw [if_pos hz];exact ⟨rfl,rfl⟩
theorem amt {s:ByteArray}:SC Tryz.prog pa [.string s] b F (fun v F'=>v = .int .i64 (if zm (ef s)=(0,0) then 0 else 7)∧F'=F):=by
 refine bf Tryz.func168 Z Z Z <| bd4 <| af Z <| bd3 <| ae <| bd4 <| af Z <| bh Z Z Z (bdr) <| af Z <| uc Z (abe Z Z (af3 (zm (ef s)).1 (zm (ef s)).2 0 0)) Z ?_
 by_cases h:zm (ef s)=(0,0)
 ·rw [if_pos h,h]
  refine bd3 <| al Z <| ao <| aa <| bd4 <| af Z <| bd3 <| aj <| ai Z (.tmp Z .nil) (Ent.refl _) ?_
  exact ⟨rfl,rfl⟩
 ·rw [if_neg h]
  refine a9 6 (.bool true) Z (by
   have:¬ ((zm (ef s)).1=0∧(zm (ef s)).2=0):=fun hc=>h (Prod.ext hc.1 hc.2)
   rw [decide_eq_false this];rfl) ?_
  refine bd3 <| aq Z <| bd4 <| af Z <| bd3 <| aj <| ag <| ai Z (.tmp Z .nil) (Ent.refl _) ?_
  exact ⟨rfl,rfl⟩
theorem akt {x:List Int} {w:Int} (hx:x.length=32):SC Tryz.prog mh [idV x,.int .i64 w] b F (fun v F'=>v = .int .i64 (if uq x w=true then 0 else 8)∧F'=F):=by
 refine bf Tryz.func167 Z Z Z <| bd4 <| cq Z Z Z Z Z fun g2=>af Z <| bd3 <| ae <| bd4 <| dk 0 Z Z Z Z Z Z (ig hx) Z <| af Z <| bh Z Z Z (a5b hx) <| af Z <| bd3 ?_
 cases h:uq x w with
 | true =>
  refine al Z <| ao <| aa <| bd4 <| af Z <| bd3 <| aj <| ai Z (.tmp Z .nil) (ac 1 [] Z Z) ?_
  exact ⟨rfl,rfl⟩
 | false =>
  refine aq Z <| bd4 <| af Z <| bd3 <| aj <| ag <| ai Z (.tmp Z .nil) (ac 1 [] Z Z) ?_
  exact ⟨rfl,rfl⟩
theorem a3h {x:List Int} {w:Int} (hx:x.length=32):SC Tryz.prog aam [idV x,.int .i64 w] b F (fun v F'=>v = .int .i64 (if x=List.replicate 32 0 then 0 else 8)∧F'=F):=by
 refine bf Tryz.func169 Z Z Z <| bd4 <| cq Z Z Z Z Z fun g2=>af Z <| bd3 <| ae <| bd4 <| dk 0 Z Z Z Z Z Z (ig hx) Z <| af Z <| a9 6 (idV (List.replicate 32 0)) Z Z <| uc Z (anl (as00:=x) (bs:=List.replicate 32 0) Z Z hx Z) Z ?_
 by_cases h:x=List.replicate 32 0
 ·rw [if_pos h]
  refine a9 7 (.bool false) Z (by rw [decide_eq_true h];rfl) ?_
  refine bd3 <| al Z <| ao <| aa <| bd4 <| af Z <| bd3 <| aj <| ai Z (.tmp Z .nil) (ac 1 [] Z Z) ?_
  exact ⟨rfl,rfl⟩
 ·rw [if_neg h]
  refine a9 7 (.bool true) Z (by rw [decide_eq_false h];rfl) ?_
  refine bd3 <| aq Z <| bd4 <| af Z <| bd3 <| aj <| ag <| ai Z (.tmp Z .nil) (ac 1 [] Z Z) ?_
  exact ⟨rfl,rfl⟩
theorem a3i:SC Tryz.prog alk [] b F (fun v F'=>v = .agg ⟨a0a⟩∧F'=F):=by
 refine bf Tryz.func121 Z Z Z <| bd4 <| ek Z Z Z Z Z fun g0=>a8r ?_
 (iterate 5 refine af Z ?_)
 refine iv 0 Z Z Z Z <| bd3 <| aj <| ai Z (.agg 0 Z Z Z Z Z .nil) (ac 1 [] Z Z) ?_
 exact ⟨rfl,rfl⟩
set_option maxRecDepth 20000 in
set_option maxHeartbeats 1000000 in
theorem a3j {asked:Bool} {w0:Int} (he:∀ w,Sat b F w→ER w e) (hw:EW e) (hl:EvL e):SC Tryz.prog an5 [evV e,.bool asked,.int .i64 w0] b F (fun v F'=>v = .int .i64 (ya e asked w0)∧F'=F):=by
 have h32:=hw.l32
 have hr32:=hw.r32
 have hrn:=hl.rn
 refine bf Tryz.func122 Z Z Z <| bt (fun w H=>du (he w H).rv) ?_
 rintro ⟨A,c,hrv,h1,h2,h3,h4,_⟩
 refine bd4 <| cq Z Z Z Z Z fun g3=> ?_
 skip
 refine cq Z Z Z Z Z fun g5=>af Z <| a8r <| af Z <| kr 1 Z Z Z Z Z Z (nf h32) Z ?_
 have her:∀ w,Sat b (pt g5 fe [.int .i64 w0]::pt g3 bo (evC e)::F) w→SL w 32 (.slice A e.refs.length c) e.refs.length (et e.refs):=fun w H=>by rw [← hrv];exact (he w (H.ent (ac 2 [] Z Z))).rv
 rw [hrv]
 refine af Z <| bd3 <| ae <| bd4 <| bgi Z Z <| bd3 ?_
 cases asked with
 | false =>
  refine aq Z <| ae <| bd4 <| bgj Z Z Z <| bd3 ?_
  refine di Z (fun h=> ?_) (fun h=> ?_)
  ·refine bd4 <| af Z <| bd3 <| aj <| ag <| ag <| ai Z (.tmp Z .nil) (ac 2 [] Z Z) ?_
   unfold ya;rw [if_pos rfl,if_neg (by omega)]
   exact ⟨rfl,rfl⟩
  ·refine ao <| aa <| bd4 <| af Z <| bd3 <| aj <| ag <| ai Z (.tmp Z .nil) (ac 2 [] Z Z) ?_
   unfold ya;rw [if_pos rfl,if_pos (by omega)]
   exact ⟨rfl,rfl⟩
 | true =>
  have hr:ya e true w0=if e.refs.length=0∨256<e.refs.length∨e.id∉e.refs∨aea e.refs=false then 2 else if (e.refs.all fun x=>uq x w0)=true then 0 else 8:=by unfold ya;rw [if_neg (by simp)]
  refine al Z <| ao <| aa <| ae <| bd4 <| bgj Z Z Z <| af Z ?_
  refine f0 19 Z (fun k1=> ?_) (fun k1=> ?_)
  ·rw [if_pos (.inl (by omega))] at hr
   (iterate 11 refine af Z ?_)
   refine bd3 <| aq Z <| bd4 <| af Z <| bd3 <| aj <| ag <| ai Z (.tmp Z .nil) (ac 2 [] Z Z) ?_
   rw [hr];exact ⟨rfl,rfl⟩
  (iterate 5 refine af Z ?_)
  refine f0 24 Z (fun k2=> ?_) (fun k2=> ?_)
  ·rw [if_pos (.inr (.inl (by omega)))] at hr
   (iterate 6 refine af Z ?_)
   refine bd3 <| aq Z <| bd4 <| af Z <| bd3 <| aj <| ag <| ai Z (.tmp Z .nil) (ac 2 [] Z Z) ?_
   rw [hr];exact ⟨rfl,rfl⟩
  refine bgi Z Z <| dk 1 Z Z Z Z Z Z (xk h32) Z <| bh Z Z Z (wa her hr32 h32 hrn) <| bgi Z Z <| bd3 ?_
  by_cases k3:e.id∉e.refs
  ·rw [if_pos (.inr (.inr (.inl k3)))] at hr
   rw [decide_eq_false k3]
   refine aq Z <| bd4 <| af Z <| bd3 <| aj <| ag <| ai Z (.tmp Z .nil) (ac 2 [] Z Z) ?_
   rw [hr];exact ⟨rfl,rfl⟩
  have k3':e.id∈e.refs:=Decidable.byContradiction k3
  rw [decide_eq_true k3']
  obtain ⟨gA,oA,rfl⟩:=h4 (by omega)
  refine al Z <| ao <| aa <| ae <| bd4 <| af Z <| b5 Z (by omega) <| bgi Z Z <| bd3 <| ar <| b6 (S:=Nat) (fun i=> [(7,.slice (some ⟨gA,oA,none⟩) e.refs.length c),(5,.pointer (some ⟨g5,0,none⟩)),(33,.int .i64 ((e.refs.length - 1:Nat):Int)),(34,.int .i64 (i:Int))]) (fun _=>pt g5 fe [.int .i64 w0]::pt g3 bo (evC e)::F) (fun i=>i≤e.refs.length - 1∧∀ j,j<i→jd (e.refs[j]?.getD []) (e.refs[j+1]?.getD [])<0) (fun i=>e.refs.length - 1 - i) 0 ⟨rfl,rfl,rfl,rfl,trivial⟩ (Ent.refl _) ⟨Nat.zero_le _,fun j hj=>absurd hj (Nat.not_lt_zero j)⟩ ?_
  rintro i ⟨hi,hk⟩
  refine bd4 <| af Z <| bd3 <| ae ?_
  refine di Z (fun h=> ?_) (fun h=> ?_)
  ·have i1:i<e.refs.length:=by omega
   have i2:i+1<e.refs.length:=by omega
   have ca:=jt her hr32 i1
   have cb:=jt her hr32 i2
   have hx:=hr32 _ (List.getElem_mem i1)
   have hy:=hr32 _ (List.getElem_mem i2)
   have ex:e.refs[i]?.getD []=e.refs[i]:=by rw [List.getElem?_eq_getElem i1];rfl
   have ey:e.refs[i+1]?.getD []=e.refs[i+1]:=by rw [List.getElem?_eq_getElem i2];rfl
   have hsucc:((i:Int)+1).toNat=i+1:=by omega
   generalize e.refs[i]=x at ca hx ex
   generalize e.refs[i+1]=y at cb hy ey
   refine ao <| aa <| ae <| ar <| bd4 <| bgi Z Z <| bd3 <| ae <| b7 flo _ (by decide +kernel) (Ent.refl _) <| ay Z Zl <| ay Z Zl <| dj Z Z (by omega) ?_
   refine fu Z (fun w H=>cn (cs:=u8s x) Z Z Z (by rw [bg,hx];rfl) (fun j hj=>by rw [bi,Int.toNat_natCast];exact ca w H j (by rw [bg,hx] at hj;exact hj))) Z Z ?_
   refine ay Z Zl <| ay Z Zl <| dj Z Z (by (unfold I64;omega)) <| dj Z Z (by omega) ?_
   refine fu Z (fun w H=>cn (cs:=u8s y) Z Z Z (by rw [bg,hy];rfl) (fun j hj=>by rw [bi,hsucc];exact cb w H j (by rw [bg,hy] at hj;exact hj))) Z Z ?_
   refine cz Z Z Z Z ((zg hx hy)) (Ent.refl _) <| ay Z Zl <| az <| aa ?_
   refine di Z (fun h5=> ?_) (fun h5=> ?_)
   ·rw [if_pos (.inr (.inr (.inr (ah5 i2 (by rw [ex,ey];omega)))))] at hr
    refine bd4 <| af Z <| bd3 <| aj <| ap <| ag <| da <| ap <| ag <| ai Z (.tmp Z .nil) (ac 2 [] Z Z) ?_
    rw [hr];exact ⟨rfl,rfl⟩
   ·refine ao <| ba <| aa <| ab <| b5 Z (by (unfold I64;omega)) <| af Z <| ad ?_
    rw [show (i:Int)+1=((i+1:Nat):Int) by omega]
    refine bj (i+1) ⟨rfl,rfl,rfl,rfl,trivial⟩ (Ent.refl _) ⟨by omega,fun j hj=> ?_⟩ (by omega)
    by_cases e9:j=i
    ·subst e9;rw [ex,ey];omega
    ·exact hk j (by omega)
  have hrise:=aks (l:=e.refs) fun j hj=>hk j (by omega)
  rw [if_neg (by
   rintro (h9 | h9 | h9 | h9)
   ·omega
   ·omega
   ·exact h9 k3'
   ·rw [hrise] at h9;cases h9)] at hr
  refine bu <| av <| ax <| au <| aa <| ae <| bd4 <| bgi Z Z <| bh Z Z Z (a3g her hr32 hrn) <| bd3 ?_
  cases hall:e.refs.all fun x=>uq x w0 with
  | true =>
   rw [hall] at hr
   refine al Z <| ao <| aa <| bd4 <| af Z <| bd3 <| aj <| ai Z (.tmp Z .nil) (ac 2 [] Z Z) ?_
   rw [hr];exact ⟨rfl,rfl⟩
  | false =>
   rw [hall] at hr
   refine aq Z <| bd4 <| af Z <| bd3 <| aj <| ag <| ai Z (.tmp Z .nil) (ac 2 [] Z Z) ?_
   rw [hr];exact ⟨rfl,rfl⟩
end

section
variable {b:World} {F:List SP} {e:Ev}
theorem bge (b:World) (h32:e.id.length=32) (hk:1≤e.kind∧e.kind≤4) (w:Int):∃ ft fi:Nat,Bodied Tryz.prog ft∧Bodied Tryz.prog fi∧((a0a.drop ((e.kind - 1).toNat*3)).take 3 = [fnV ft,fnV fi,.bool (decide (e.kind=1∨e.kind=3))]) ∧
  (∀ G,SC Tryz.prog ft [.string e.tag] b G (fun v F'=>v = .int .i64 (vz e)∧F'=G))∧(∀ G,SC Tryz.prog fi [idV e.id,.int .i64 w] b G (fun v F'=>v = .int .i64 (idE e w)∧F'=G)):=by
 have:e.kind=1∨e.kind=2∨e.kind=3∨e.kind=4:=by omega
 rcases this with h | h | h | h
 ·refine ⟨qa,mh,inferInstance,inferInstance,by rw [h];rfl,fun G=> ?_,fun G=> ?_⟩
  ·have e1:vz e=if e.tag.size=0 then 0 else 2:=by unfold vz;rw [if_neg (by omega)]
   rw [e1];exact aq7
  ·have e1:idE e w=if uq e.id w=true then 0 else 8:=by unfold idE;rw [if_neg (by omega)]
   rw [e1];exact akt h32
 ·refine ⟨qa,mh,inferInstance,inferInstance,by rw [h];rfl,fun G=> ?_,fun G=> ?_⟩
  ·have e1:vz e=if e.tag.size=0 then 0 else 2:=by unfold vz;rw [if_neg (by omega)]
   rw [e1];exact aq7
  ·have e1:idE e w=if uq e.id w=true then 0 else 8:=by unfold idE;rw [if_neg (by omega)]
   rw [e1];exact akt h32
 ·refine ⟨pa,mh,inferInstance,inferInstance,by rw [h];rfl,fun G=> ?_,fun G=> ?_⟩
  ·have e1:vz e=if zm (ef e.tag)=(0,0) then 0 else 7:=by unfold vz;rw [if_pos (by omega)]
   rw [e1];exact amt
  ·have e1:idE e w=if uq e.id w=true then 0 else 8:=by unfold idE;rw [if_neg (by omega)]
   rw [e1];exact akt h32
 ·refine ⟨pa,aam,inferInstance,inferInstance,by rw [h];rfl,fun G=> ?_,fun G=> ?_⟩
  ·have e1:vz e=if zm (ef e.tag)=(0,0) then 0 else 7:=by unfold vz;rw [if_pos (by omega)]
   rw [e1];exact amt
  ·have e1:idE e w=if e.id=List.replicate 32 0 then 0 else 8:=by unfold idE;rw [if_pos h]
   rw [e1];exact a3h h32
set_option maxRecDepth 20000 in
set_option maxHeartbeats 2000000 in
theorem a3k {n w0:Int} (he:∀ w,Sat b F w→ER w e) (hw:EW e) (hl:EvL e):SC Tryz.prog ali [evV e,.int .i64 n,.int .i64 w0] b F (fun v F'=>v = .int .i64 (qt e n w0)∧F'=F):=by
 have h32:=hw.l32
 have d3:=hw.kind
 unfold I64 at d3
 have her:∀ g3 w,Sat b (pt g3 bo (evC e)::F) w→ER w e:=fun g3=>up he (ac 1 [] Z Z)
 refine bf Tryz.func68 Z Z Z <| bt (fun w H=>ava (he w H)) ?_
 rintro ⟨o1,o2⟩
 have xl:=cu h32
 have x1:=kj o1 o2
 refine bd4 <| cq Z Z Z Z Z fun g3=>af Z <| bd3 <| ae <| ar <| bd4 <| bgj Z Z Z ?_
 by_cases k1:n<1
 ·have hr:qt e n w0=3:=by unfold qt;rw [if_pos (by omega)]
  refine a9 13 (.bool true) Z (congrArg Value.bool (decide_eq_true k1)) ?_
  (iterate 12 refine af Z ?_)
  refine bd3 <| aq Z <| bd4 <| af Z <| bd3 <| aj <| ap <| ag <| ai Z (.tmp Z .nil) (ac 1 [] Z Z) ?_
  rw [hr];exact ⟨rfl,rfl⟩
 refine a9 13 (.bool false) Z (congrArg Value.bool (decide_eq_false k1)) <| bgj Z Z Z <| af Z ?_
 by_cases k2:16<n
 ·have hr:qt e n w0=3:=by unfold qt;rw [if_pos (by omega)]
  refine a9 17 (.bool true) Z (congrArg Value.bool (decide_eq_true k2)) ?_
  (iterate 8 refine af Z ?_)
  refine bd3 <| aq Z <| bd4 <| af Z <| bd3 <| aj <| ap <| ag <| ai Z (.tmp Z .nil) (ac 1 [] Z Z) ?_
  rw [hr];exact ⟨rfl,rfl⟩
 refine a9 17 (.bool false) Z (congrArg Value.bool (decide_eq_false k2)) <| bgj Z Z Z <| af Z ?_
 by_cases k3:w0<1
 ·have hr:qt e n w0=3:=by unfold qt;rw [if_pos (by omega)]
  refine a9 21 (.bool true) Z (congrArg Value.bool (decide_eq_true k3)) <| bgj Z Z Z <| af Z <| bd3 <| aq Z <| bd4 <| af Z <| bd3 <| aj <| ap <| ag <| ai Z (.tmp Z .nil) (ac 1 [] Z Z) ?_
  rw [hr];exact ⟨rfl,rfl⟩
 refine a9 21 (.bool false) Z (congrArg Value.bool (decide_eq_false k3)) <| bgj Z Z Z <| af Z <| bd3 ?_
 refine di Z (fun k4=> ?_) (fun k4=> ?_)
 ·have hr:qt e n w0=3:=by unfold qt;rw [if_pos (by omega)]
  refine bd4 <| af Z <| bd3 <| aj <| ap <| ag <| ai Z (.tmp Z .nil) (ac 1 [] Z Z) ?_
  rw [hr];exact ⟨rfl,rfl⟩
 have hr:qt e n w0=if mq e n=false then 2 else if e.kind<1∨4<e.kind then 5 else if qd (ef e.repo)≠(0,0) then 7 else if vz e≠0 then vz e else if idE e w0≠0 then idE e w0 else ya e (decide (e.kind=1∨e.kind=3)) w0:=by
  unfold qt;rw [if_neg (by omega)]
 refine bd4 ?_
 refine dk 0 Z Z Z Z Z Z (fd (by rw [xl];rfl)) Z ?_
 refine af Z <| bh Z Z Z (aw3 (her g3) hw.dot hl.dn) <| bgi Z Z <| bd3 ?_
 cases hp:mq e n with
 | false =>
  rw [if_pos hp] at hr
  refine aq Z <| bd4 <| af Z <| bd3 <| aj <| ap <| ag <| ai Z (.tmp Z .nil) (ac 1 [] Z Z) ?_
  rw [hr];exact ⟨rfl,rfl⟩
 | true =>
  rw [if_neg (by rw [hp];simp)] at hr
  refine al Z <| bd4 <| af Z <| df 0 Z Z Z <| bgi Z Z ?_
  by_cases k5:e.kind<1
  ·rw [if_pos (.inl k5)] at hr
   refine a9 34 (.bool true) Z (congrArg Value.bool (decide_eq_true k5)) ?_
   (iterate 5 refine af Z ?_)
   refine bd3 <| aq Z <| bd4 <| af Z <| bd3 <| aj <| ap <| ag <| ai Z (.tmp Z .nil) (ac 1 [] Z Z) ?_
   rw [hr];exact ⟨rfl,rfl⟩
  refine a9 34 (.bool false) Z (congrArg Value.bool (decide_eq_false k5)) <| af Z <| df 0 Z Z Z <| bgj Z Z Z <| bd3 ?_
  refine di Z (fun k6=> ?_) (fun k6=> ?_)
  ·rw [if_pos (.inr k6)] at hr
   refine bd4 <| af Z <| bd3 <| aj <| ap <| ag <| ai Z (.tmp Z .nil) (ac 1 [] Z Z) ?_
   rw [hr];exact ⟨rfl,rfl⟩
  rw [if_neg (by omega)] at hr
  refine bd4 <| af Z <| df 0 Z Z Z <| bh Z Z Z (a7a) <| af Z <| uc Z (abe Z Z (af3 (qd (ef e.repo)).1 (qd (ef e.repo)).2 0 0)) Z ?_
  by_cases k7:qd (ef e.repo)≠(0,0)
  ·rw [if_pos k7] at hr
   refine a9 44 (.bool true) Z (by
    have:¬ ((qd (ef e.repo)).1=0∧(qd (ef e.repo)).2=0):=fun hc=>k7 (Prod.ext hc.1 hc.2)
    rw [decide_eq_false this];rfl) ?_
   refine af Z <| bd3 <| aq Z <| bd4 <| af Z <| bd3 <| aj <| ap <| ag <| ai Z (.tmp Z .nil) (ac 1 [] Z Z) ?_
   rw [hr];exact ⟨rfl,rfl⟩
  rw [if_neg k7] at hr
  have k7':qd (ef e.repo)=(0,0):=Decidable.byContradiction k7
  refine a9 44 (.bool false) Z (by rw [k7'];rfl) ?_
  obtain ⟨ft,fi,_,_,hway,hft,hfi⟩:=bge b h32 (by omega:1≤e.kind∧e.kind≤4) w0
  refine af Z <| bd3 <| al Z <| ao <| ba <| aa <| ae <| apx (fl:=flo) 5 7 (pt g3 bo (evC e)::F) (by decide +kernel) Z Z Z Z (Ent.refl _) ?_
  skip
  refine ayr Z Z Z Z Z Z Z (fun A=>a3i) (Ent.refl _) <| a8t Z Z Z Z Zl <| bd7 0 Z Z Z Z Z Z Z <| bd6 Z Z Z Z Z (by (unfold I64;omega)) ?_
  refine auo Z Z Z Z (a6j Z Z Z Z Z ⟨by omega,by show _<(4:Int);omega⟩ hway) Z Z ?_
  refine a4m <| aup Z (by decide +kernel) Z fun g7=>⟨ac 1 [] Z rfl,?_⟩
  refine qr 0 Z Z Z Z Z Z Z Z Z (by simp [Value.oneCell']) Z (ac 1 [] Z Z) ?_
  refine az ?_
  have her7:∀ w,Sat b (pt g7 an9 [fnV ft,fnV fi,.bool (decide (e.kind=1∨e.kind=3))]::pt g3 bo (evC e)::F) w→ER w e:=up he (ac 2 [] Z Z)
  refine aa <| ae <| ae <| b7 flo _ (by decide +kernel) (Ent.refl _) <| ay Z Zl <| de 0 Z Z Z Z <| ay Z Zl <| de 1 Z Z Z Z <| cz Z Z Z Z ((hft _)) (Ent.refl _) <| ay Z Zl <| de 0 Z Z Z Z <| ay Z Zl <| jm 1 Z Z Z Z Z Z (xk h32) Z Z <| ay Z Zl <| cz Z Z Z Z ((hfi _)) (Ent.refl _) ?_
  refine jm 1 Z Z Z Z Z Z (fd (by rw [xl];rfl)) Z Z ?_
  refine ay Z Zl <| de 0 Z Z Z Z <| ay Z Zl <| cz Z Z Z Z ((a3j her7 hw hl)) (Ent.refl _) ?_
  generalize ya e (decide (e.kind=1∨e.kind=3)) w0=x3 at hr ⊢
  generalize vz e=x1' at hr ⊢
  generalize idE e w0=x2 at hr ⊢
  refine ay Z Zl <| ay Z Zl <| az <| aa <| ar ?_
  refine b6 (S:=Nat) (fun i=> [(66,.agg ⟨[.int .i64 x1',.int .i64 x2,.int .i64 x3]⟩),(67,.int .i64 (i:Int))]) (fun _=>F) (fun i=>i≤3∧(1≤i→x1'=0)∧(2≤i→x2=0)∧(3≤i→x3=0)) (fun i=>3 - i) 0 ⟨rfl,rfl,trivial⟩ (ac 2 [] Z Z) ⟨by omega,by omega,by omega,by omega⟩ ?_
  rintro i ⟨hi,j1,j2,j3⟩
  refine bd4 <| af Z <| bd3 <| ae ?_
  refine di Z (fun h=> ?_) (fun h=> ?_)
  ·have h3:i=0∨i=1∨i=2:=by omega
   rcases h3 with rfl | rfl | rfl
   ·refine ao <| aa <| ae <| ar <| bd4 ?_
    refine b5 Z (by (simp;done)) ?_
    refine af Z <| a8r <| bgi Z Z <| bd3 ?_
    refine abg Z (fun h5=> ?_) (fun h5=> ?_)
    ·rw [if_pos h5] at hr
     refine bd4 <| bgi Z Z <| bd3 <| aj <| ap <| ag <| da <| ap <| ag <| ai Z (.tmp Z .nil) (Ent.refl _) ?_
     rw [hr];exact ⟨rfl,rfl⟩
    ·refine ao <| ba <| aa <| ab <| b5 Z (by (unfold I64;omega)) <| af Z <| ad ?_
     exact bj 1 ⟨rfl,rfl,trivial⟩ (Ent.refl _) ⟨by omega,fun _=>h5,by omega,by omega⟩ (by omega)
   ·have:=j1 (by omega)
    refine ao <| aa <| ae <| ar <| bd4 ?_
    refine b5 Z (by (simp;done)) ?_
    refine af Z <| a8r <| bgi Z Z <| bd3 ?_
    refine abg Z (fun h5=> ?_) (fun h5=> ?_)
    ·rw [if_neg (by omega),if_pos h5] at hr
     refine bd4 <| bgi Z Z <| bd3 <| aj <| ap <| ag <| da <| ap <| ag <| ai Z (.tmp Z .nil) (Ent.refl _) ?_
     rw [hr];exact ⟨rfl,rfl⟩
    ·refine ao <| ba <| aa <| ab <| b5 Z (by (unfold I64;omega)) <| af Z <| ad ?_
     exact bj 2 ⟨rfl,rfl,trivial⟩ (Ent.refl _) ⟨by omega,fun _=>this,fun _=>h5,by omega⟩ (by omega)
   ·have t1:=j1 (by omega)
    have t2:=j2 (by omega)
    rw [if_neg (by omega),if_neg (by omega)] at hr
    refine ao <| aa <| ae <| ar <| bd4 ?_
    refine b5 Z (by (simp;done)) ?_
    refine af Z <| a8r <| bgi Z Z <| bd3 ?_
    refine abg Z (fun h5=> ?_) (fun h5=> ?_)
    ·refine bd4 <| bgi Z Z <| bd3 <| aj <| ap <| ag <| da <| ap <| ag <| ai Z (.tmp Z .nil) (Ent.refl _) ?_
     rw [hr];exact ⟨rfl,rfl⟩
    ·refine ao <| ba <| aa <| ab <| b5 Z (by (unfold I64;omega)) <| af Z <| ad ?_
     exact bj 3 ⟨rfl,rfl,trivial⟩ (Ent.refl _) ⟨by omega,fun _=>t1,fun _=>t2,fun _=>h5⟩ (by omega)
  ·obtain rfl:i=3:=by omega
   rw [if_neg (by rw [j1 (by omega)];simp),if_neg (by rw [j2 (by omega)];simp),j3 (by omega)] at hr
   refine bu <| av <| ax <| au <| aa <| bd4 <| af Z <| bd3 <| aj <| ai Z (.tmp Z .nil) (Ent.refl _) ?_
   rw [hr];exact ⟨rfl,rfl⟩
end

section
variable {b:World} {F:List SP}
end

section
variable {b:World} {F:List SP} {e:Ev}
set_option maxHeartbeats 1000000 in
theorem a7f {va:Value} {l:List (List Int)} (ha:∀ w,Sat b F w→SL w 32 va l.length (et l)) (hl:∀ x∈l,idOk x):SC Tryz.prog ab3 [va] b F (fun v F'=>v = .bool (aea l)∧F'=F):=by
 have hl32:fw l:=fun x hx=>(hl x hx).1
 refine bf Tryz.func186 Z Z Z <| bt (fun w H=>du (ha w H)) ?_
 rintro ⟨A,c,rfl,h1,h2,h3,h4,_⟩
 refine bd4 <| af Z <| bd3 <| ae <| bd4 <| af Z <| bd3 <| ar <| b6 (S:=Nat) (fun i=> [(0,.slice A l.length c),(3,.int .i64 ((i+1:Nat):Int))]) (fun _=>F) (fun i=>i≤l.length - 1∧∀ j,j<i→jd (l[j]?.getD []) (l[j+1]?.getD [])<0) (fun i=>l.length - i) 0 ⟨rfl,rfl,trivial⟩ (Ent.refl _) ⟨Nat.zero_le _,fun _ h=>absurd h (Nat.not_lt_zero _)⟩ ?_
 rintro i ⟨hi,hk⟩
 refine ae <| bd4 <| bgj Z Z Z <| af Z <| bd3 ?_
 refine di Z (fun h=> ?_) (fun h=> ?_)
 ·have i1:i<l.length:=by omega
  have i2:i+1<l.length:=by omega
  obtain ⟨gA,oA,rfl⟩:=h4 (by omega)
  have ca:=jt ha hl32 i1
  have cb:=jt ha hl32 i2
  have ox:=hl _ (List.getElem_mem i1)
  have oy:=hl _ (List.getElem_mem i2)
  have hx:=ox.1
  have hy:=oy.1
  have ex:l[i]?.getD []=l[i]:=by rw [List.getElem?_eq_getElem i1];rfl
  have ey:l[i+1]?.getD []=l[i+1]:=by rw [List.getElem?_eq_getElem i2];rfl
  have hpred:(((i+1:Nat):Int) - 1).toNat=i:=by omega
  generalize l[i]=x at *
  generalize l[i+1]=y at *
  have hcm:zh x y=jd x y:=(as4 (fun c hc=>(a2v c).1 (ox.2 c hc)) (fun c hc=>(a2v c).1 (oy.2 c hc))).symm
  refine ao <| aa <| ae <| ar <| ae <| b7 flo _ (by decide +kernel) (Ent.refl _) <| ay Z Zl <| ay Z Zl <| dj Z Z (by (unfold I64;omega)) <| dj Z Z (by omega) ?_
  refine fu Z (fun w H=>cn (cs:=u8s x) Z Z Z (by rw [bg,hx];rfl) (fun j hj=>by rw [bi,hpred];exact ca w H j (by rw [bg,hx] at hj;exact hj))) Z Z ?_
  refine ay Z Zl <| ay Z Zl <| dj Z Z (by omega) ?_
  refine fu Z (fun w H=>cn (cs:=u8s y) Z Z Z (by rw [bg,hy];rfl) (fun j hj=>by rw [bi,Int.toNat_natCast];exact cb w H j (by rw [bg,hy] at hj;exact hj))) Z Z ?_
  refine cz Z Z Z Z ((aas hx hy)) (Ent.refl _) ?_
  rw [hcm]
  refine ay Z Zl <| az <| aa ?_
  refine di Z (fun h5=> ?_) (fun h5=> ?_)
  ·refine bd4 <| af Z <| bd3 <| aj <| ap <| ag <| da <| ap <| ag <| ai Z (.tmp Z .nil) (Ent.refl _) ?_
   exact ⟨congrArg Value.bool (ah5 i2 (by rw [ex,ey];omega)).symm,rfl⟩
  ·refine ao <| ba <| aa <| ab <| af Z <| b5 Z (by (unfold I64;omega)) <| af Z <| ad ?_
   rw [show ((i+1:Nat):Int)+1=((i+1+1:Nat):Int) by omega]
   refine bj (i+1) ⟨rfl,rfl,trivial⟩ (Ent.refl _) ⟨by omega,fun j hj=> ?_⟩ (by omega)
   by_cases e9:j=i
   ·subst e9;rw [ex,ey];omega
   ·exact hk j (by omega)
 ·refine bu <| av <| ax <| au <| aa <| bd4 <| af Z <| bd3 <| aj <| ai Z (.tmp Z .nil) (Ent.refl _) ?_
  exact ⟨congrArg Value.bool (aks (l:=l) fun j hj=>hk j (by omega)).symm,rfl⟩
set_option maxHeartbeats 1000000 in
theorem a7g {va:Value} {l:List (List Int)} {x:List Int} (ha:∀ w,Sat b F w→SL w 32 va l.length (et l)) (hl:fw l) (hx:x.length=32) :
  SC Tryz.prog adw [va,idV x] b F (fun v F'=>v = .bool (decide (x∈l))∧F'=F):=by
 refine bf Tryz.func187 Z Z Z <| bt (fun w H=>du (ha w H)) ?_
 rintro ⟨A,c,rfl,h1,h2,h3,h4,_⟩
 refine bd4 <| cq Z Z Z Z Z fun g3=>af Z <| bd3 <| ae <| bd4 <| af Z <| bd3 <| ar ?_
 refine b6 (S:=Nat) (fun i=> [(0,.slice A l.length c),(3,.pointer (some ⟨g3,0,none⟩)),(5,.int .i64 (i:Int))]) (fun _=>pt g3 t_api_ID (u8s x)::F) (fun i=>i≤l.length∧x∉l.take i) (fun i=>l.length - i) 0 ⟨rfl,rfl,rfl,trivial⟩ (Ent.refl _) ⟨Nat.zero_le _,by simp⟩ ?_
 rintro i ⟨hi,hk⟩
 refine ae <| bd4 <| bgj Z Z Z <| af Z <| bd3 ?_
 refine di Z (fun h=> ?_) (fun h=> ?_)
 ·have h':i<l.length:=by omega
  obtain ⟨gA,oA,rfl⟩:=h4 (by omega)
  have ca:=jt ha hl h'
  have hy:=hl _ (List.getElem_mem h')
  have hmem:=List.getElem_mem h'
  have htk:=List.take_succ_eq_append_getElem h'
  generalize l[i]=y at ca hy hmem htk
  refine ao <| aa <| ae <| ar <| ae <| b7 flo _ (by decide +kernel) (Ent.refl _) <| ay Z Zl <| ay Z Zl <| dj Z Z (by omega) ?_
  refine fu Z (fun w H=>cn (cs:=u8s y) Z Z Z (by rw [bg,hy];rfl) (fun j hj=>by rw [bi,Int.toNat_natCast];exact ca w (H.ent (ac 1 [] Z Z)) j (by rw [bg,hy] at hj;exact hj))) Z Z ?_
  refine jm 0 Z Z Z Z Z Z (ig hx) Z Z <| qz Z (yi (as00:=y) (bs:=x) Z Z hy hx) Z Z <| az <| aa ?_
  refine di Z (fun hxy=> ?_) (fun hxy=> ?_)
  ·refine bd4 <| af Z <| bd3 <| aj <| ap <| ag <| da <| ap <| ag <| ai Z (.tmp Z .nil) (ac 1 [] Z Z) ?_
   exact ⟨congrArg Value.bool (decide_eq_true (by rw [← hxy];exact hmem)).symm,rfl⟩
  ·refine ao <| ba <| aa <| ab <| af Z <| b5 Z (by (unfold I64;omega)) <| af Z <| ad ?_
   rw [show (i:Int)+1=((i+1:Nat):Int) by omega]
   refine bj (i+1) ⟨rfl,rfl,rfl,trivial⟩ (Ent.refl _) ⟨h',?_⟩ (by omega)
   rw [htk]
   simp [hk]
   exact fun h9=>hxy h9.symm
 ·refine bu <| av <| ax <| au <| aa <| bd4 <| af Z <| bd3 <| aj <| ai Z (.tmp Z .nil) (ac 1 [] Z Z) ?_
  rw [List.take_of_length_le (by omega)] at hk
  exact ⟨congrArg Value.bool (decide_eq_false hk).symm,rfl⟩
end

section
variable {b:World} {F:List SP} {e:Ev}
set_option maxRecDepth 20000 in
set_option maxHeartbeats 4000000 in
theorem aw5 {n:Int} (he:∀ w,Sat b F w→ER w e) (hw:EW e) (hl:EvL e):SC Tryz.prog aal [evV e,.int .i64 n] b F (fun v F'=>v = .bool (mq e n)∧F'=F):=by
 have hdot:=hw.dot
 have hr64:=aop hdot.1
 have hn64:=aop hdot.2
 unfold I64 at hr64 hn64
 have hdn:=hl.dn
 refine bf Tryz.func148 Z Z Z <| bt (fun w H=>(he w H).dv.form) ?_
 rintro ⟨A,c,hdv,h1,h2,h3,h4⟩
 refine bd4 <| cq Z Z Z Z Z fun g2=>af Z <| bd3 ?_
 have her:∀ w,Sat b (pt g2 bo (evC e)::F) w→VL (Value.int .i64) w (.slice A e.deps.length c) e.deps:=fun w H=>by rw [← hdv];exact (he w (H.ent (ac 1 [] Z Z))).dv
 generalize hC:decide (1≤e.r∧e.r≤n∧1≤e.n∧e.n≤1048576∧(e.deps.length:Int)=n)=C
 refine wu (S:=Unit) (fun _=> [(1,.int .i64 n),(2,.pointer (some ⟨g2,0,none⟩)),(5,.bool C)]) (fun _=>pt g2 bo (evC e)::F) (fun _=>True) ?_ ?_
 ·refine ab <| bgi Z Z <| df 0 Z Z Z <| bgi Z Z ?_
  refine f0 11 Z (fun k1=> ?_) (fun k1=> ?_)
  rotate_left
  ·rw [decide_eq_false (by omega)] at hC
   subst hC
   (iterate 26 refine af Z ?_)
   refine ad ?_
   exact i9 () ⟨rfl,rfl,rfl,trivial⟩ (Ent.refl _) trivial
  refine bgi Z Z <| df 0 Z Z Z <| bgj Z Z Z <| af Z ?_
  refine f0 18 Z (fun k2=> ?_) (fun k2=> ?_)
  rotate_left
  ·rw [decide_eq_false (by omega)] at hC
   subst hC
   (iterate 19 refine af Z ?_)
   refine ad ?_
   exact i9 () ⟨rfl,rfl,rfl,trivial⟩ (Ent.refl _) trivial
  refine bgi Z Z <| df 0 Z Z Z <| bgj Z Z Z ?_
  refine f0 24 Z (fun k3=> ?_) (fun k3=> ?_)
  rotate_left
  ·rw [decide_eq_false (by omega)] at hC
   subst hC
   (iterate 13 refine af Z ?_)
   refine ad ?_
   exact i9 () ⟨rfl,rfl,rfl,trivial⟩ (Ent.refl _) trivial
  refine bgi Z Z <| df 0 Z Z Z <| bgj Z Z Z ?_
  refine f0 30 Z (fun k4=> ?_) (fun k4=> ?_)
  rotate_left
  ·rw [decide_eq_false (by omega)] at hC
   subst hC
   (iterate 7 refine af Z ?_)
   refine ad ?_
   exact i9 () ⟨rfl,rfl,rfl,trivial⟩ (Ent.refl _) trivial
  refine af Z <| df 0 Z Z Z ?_
  rw [hdv]
  (iterate 5 refine af Z ?_)
  refine ad <| i9 () ⟨rfl,rfl,?_,trivial⟩ (Ent.refl _) trivial
  rw [← hC]
  exact congrArg (fun q=>some (Value.bool q)) (decide_eq_decide.2 (by omega))
 rintro ⟨⟩ _
 have hp:mq e n=(C&&e.deps.all okNum&&decide (e.deps[(e.r - 1).toNat]?.getD 0=e.n - 1)):=by unfold mq;rw [hC]
 clear h3
 refine ae <| bd4 <| af Z <| bd3 <| ar ?_
 refine b6 (S:=Nat × Bool) (fun s=> [(1,.int .i64 n),(2,.pointer (some ⟨g2,0,none⟩)),(5,.bool s.2),(6,.int .i64 (s.1:Int))]) (fun _=>pt g2 bo (evC e)::F) (fun s=>s.1≤e.deps.length∧(s.2=true→C=true∧∀ k (hk:k<e.deps.length),k<s.1→okNum e.deps[k]=true)∧(s.2=false→(C&&e.deps.all okNum)=false)) (fun s=>e.deps.length - s.1) (0,C) ⟨rfl,rfl,rfl,rfl,trivial⟩ (Ent.refl _) ⟨Nat.zero_le _,fun h=>⟨h,fun _ _ h=>absurd h (Nat.not_lt_zero _)⟩,fun h=>by
  have h':C=false:=h
  rw [h'];rfl⟩ ?_
 rintro ⟨i,q⟩ ⟨hi,ht,hf⟩
 dsimp only at hi ht hf ⊢
 refine ae <| bd4 <| bgi Z Z <| df 0 Z Z Z ?_
 rw [hdv]
 refine bgj Z Z Z ?_
 cases q with
 | false =>
  have hff:=hf Z
  rw [hff] at hp
  refine api 42 Z (fun _=> ?_) (fun _=> ?_)
  ·refine bgi Z Z <| bd3 <| al Z <| bu <| av <| ax <| au <| aa <| ae <| b7 flo _ (by decide +kernel) (Ent.refl _) ?_
   (iterate 17 refine ay Z Zl ?_)
   refine az <| aa <| aj <| ai Z (.tmp Z .nil) (ac 1 [] Z Z) ?_
   exact ⟨congrArg Value.bool hp.symm,rfl⟩
  ·refine bgi Z Z <| bd3 <| al Z <| bu <| av <| ax <| au <| aa <| ae <| b7 flo _ (by decide +kernel) (Ent.refl _) ?_
   (iterate 17 refine ay Z Zl ?_)
   refine az <| aa <| aj <| ai Z (.tmp Z .nil) (ac 1 [] Z Z) ?_
   exact ⟨congrArg Value.bool hp.symm,rfl⟩
 | true =>
 obtain ⟨rfl,hall⟩:=ht Z
 refine f0 42 Z (fun g1=> ?_) (fun g1=> ?_)
 ·have g1':i<e.deps.length:=by omega
  obtain ⟨bk,off,rfl⟩:=h4 (by omega)
  have hc:∀ w,Sat b (pt g2 bo (evC e)::F) w→w.cell? ⟨bk,off+i,none⟩=some (.int .i64 e.deps[i]):=fun w H=>VL.at (her w H) i g1'
  have hmem:=List.getElem_mem g1'
  have hbad:okNum e.deps[i]=false→(true&&e.deps.all okNum)=false:=fun h=>by
   cases ha:e.deps.all okNum with
   | false => rfl
   | true => rw [List.all_eq_true.1 ha _ hmem] at h; cases h
  have hnext:okNum e.deps[i]=true→∀ k (hk:k<e.deps.length),k<i+1→okNum e.deps[k]=true:=fun h k hk hlt=>by
   by_cases e9:k=i
   ·subst e9;exact h
   ·exact hall k hk (by omega)
  generalize e.deps[i]=x at hc hbad hnext hmem
  refine bgi Z Z <| bd3 <| aq Z <| ao <| aa <| ae <| ar <| ab <| af Z <| df 0 Z Z Z <| af Z ?_
  rw [hdv]
  refine b5 Z (by omega) ?_
  refine iu Z (fun w H=>bm Z Z Z (by rw [bi,Int.toNat_natCast,Nat.mul_one];exact hc w H)) Z ?_
  refine bgi Z Z ?_
  refine f0 53 Z (fun g2'=> ?_) (fun g2'=> ?_)
  ·refine af Z <| df 0 Z Z Z <| af Z ?_
   rw [hdv]
   refine b5 Z (by omega) ?_
   refine iu Z (fun w H=>bm Z Z Z (by rw [bi,Int.toNat_natCast,Nat.mul_one];exact hc w H)) Z ?_
   refine bgj Z Z Z <| ad <| ba <| aa <| ab <| af Z <| b5 Z (by (unfold I64;omega)) <| af Z <| ad ?_
   rw [show (i:Int)+1=((i+1:Nat):Int) by omega]
   have hok:okNum x=decide (x≤1048576):=by unfold okNum;rw [decide_eq_true g2'];rfl
   refine bj (i+1,decide (x≤1048576)) ⟨rfl,rfl,rfl,rfl,trivial⟩ (Ent.refl _) ⟨g1',fun h=>⟨rfl,hnext (by rw [hok];exact h)⟩,fun h=>hbad (by rw [hok];exact h)⟩ (by dsimp only;omega)
  ·(iterate 8 refine af Z ?_)
   refine ad <| ba <| aa <| ab <| af Z <| b5 Z (by (unfold I64;omega)) <| af Z <| ad ?_
   rw [show (i:Int)+1=((i+1:Nat):Int) by omega]
   have hok:okNum x=false:=by unfold okNum;rw [decide_eq_false g2'];rfl
   refine bj (i+1,false) ⟨rfl,rfl,rfl,rfl,trivial⟩ (Ent.refl _) ⟨g1',fun h=>(by cases h),fun _=>hbad hok⟩ (by dsimp only;omega)
 ·have hC':=of_decide_eq_true hC
  have hallT:e.deps.all okNum=true:=List.all_eq_true.2 fun x hx=>by
   obtain ⟨k,hk,rfl⟩:=List.mem_iff_getElem.1 hx
   exact hall k hk (by omega)
  rw [hallT] at hp
  have hir:(e.r - 1).toNat<e.deps.length:=by omega
  have hg:e.deps[(e.r - 1).toNat]?.getD 0=e.deps[(e.r - 1).toNat]:=by rw [List.getElem?_eq_getElem hir];rfl
  obtain ⟨bk,off,rfl⟩:=h4 (by omega)
  refine bgi Z Z <| bd3 <| al Z <| bu <| av <| ax <| au <| aa <| ae <| b7 flo _ (by decide +kernel) (Ent.refl _) <| ay Z Zl <| ay Z Zl <| ay Z Zl <| de 0 Z Z Z Z <| ay Z Zl <| ay Z Zl <| de 0 Z Z Z Z <| dj Z Z (by (unfold I64;omega)) ?_
  rw [hdv]
  refine dj Z Z (by omega) ?_
  refine fu Z (fun w H=>bm Z Z Z (by rw [bi];simpa using VL.at (her w H) (e.r - 1).toNat hir)) Z Z ?_
  refine ay Z Zl <| ay Z Zl <| de 0 Z Z Z Z <| dj Z Z (by (unfold I64;omega)) <| ay Z Zl <| ay Z Zl <| ay Z Zl <| az <| aa <| aj <| ai Z (.tmp Z .nil) (ac 1 [] Z Z) ?_
  exact ⟨congrArg Value.bool (by rw [hp,hg];simp),rfl⟩
end

section
variable {b:World} {F:List SP} {e:Ev}
set_option maxRecDepth 20000 in
set_option maxHeartbeats 4000000 in
theorem aoq {w0:Int} (he:∀ w,Sat b F w→ER w e) (hw:EW e) (hl:EvL e):SC Tryz.prog abx [evV e,.int .i64 w0] b F (fun v F'=>v = .int .i64 (ya e (decide (e.kind=1∨e.kind=3)) w0)∧F'=F):=by
 have h32:=hw.l32
 have hr32:=hw.r32
 have hrn:=hl.rn
 refine bf Tryz.func152 Z Z Z <| bt (fun w H=>du (he w H).rv) ?_
 rintro ⟨A,c,hrv,h1,h2,h3,h4,_⟩
 refine bd4 <| cq Z Z Z Z Z fun g2=> ?_
 have her:∀ w,Sat b (pt g2 bo (evC e)::F) w→SL w 32 (.slice A e.refs.length c) e.refs.length (et e.refs):=fun w H=>by rw [← hrv];exact (he w (H.ent (ac 1 [] Z Z))).rv
 refine af Z <| bd3 ?_
 refine wu (S:=Unit) (fun _=> [(1,.int .i64 w0),(2,.pointer (some ⟨g2,0,none⟩))]) (fun _=>pt g2 bo (evC e)::F) (fun _=>e.kind=1∨e.kind=3) ?_ ?_
 ·refine bd4 <| af Z <| df 0 Z Z Z <| bgi Z Z ?_
  refine api 9 Z (fun k1=> ?_) (fun k1=> ?_)
  rotate_left
  ·refine bgj Z Z Z <| af Z <| bd3 <| al Z <| ao ?_
   exact i9 () ⟨rfl,rfl,trivial⟩ (Ent.refl _) (.inl (by simpa using k1))
  refine af Z <| df 0 Z Z Z <| bgi Z Z <| bd3 ?_
  refine abg Z (fun k2=> ?_) (fun k2=> ?_)
  rotate_left
  ·refine ao ?_
   exact i9 () ⟨rfl,rfl,trivial⟩ (Ent.refl _) (.inr k2)
  have ha:decide (e.kind=1∨e.kind=3)=false:=decide_eq_false (by
   rintro (h | h)
   ·rw [h] at k1;simp at k1
   ·exact k2 h)
  rw [ha]
  refine ae <| bd4 <| af Z <| kr 0 Z Z Z Z Z Z (nf h32) Z ?_
  rw [hrv]
  refine bgi Z Z <| bd3 ?_
  refine di Z (fun h=> ?_) (fun h=> ?_)
  ·refine bd4 <| af Z <| bd3 <| aj <| ag <| da <| ai Z (.tmp Z .nil) (ac 1 [] Z Z) ?_
   unfold ya;rw [if_pos rfl,if_neg (by omega)]
   exact ⟨rfl,rfl⟩
  ·refine ao <| aa <| bd4 <| af Z <| bd3 <| aj <| da <| ai Z (.tmp Z .nil) (ac 1 [] Z Z) ?_
   unfold ya;rw [if_pos rfl,if_pos (by omega)]
   exact ⟨rfl,rfl⟩
 rintro ⟨⟩ hask
 rw [decide_eq_true hask]
 have hr:ya e true w0=if e.refs.length=0∨256<e.refs.length∨e.id∉e.refs∨aea e.refs=false then 2 else if (e.refs.all fun x=>uq x w0)=true then 0 else 8:=by unfold ya;rw [if_neg (by simp)]
 refine ae <| bd4 <| af Z <| kr 0 Z Z Z Z Z Z (nf h32) Z ?_
 rw [hrv]
 refine bgj Z Z Z ?_
 refine f0 22 Z (fun k1=> ?_) (fun k1=> ?_)
 ·rw [if_pos (.inl (by omega))] at hr
  (iterate 19 refine af Z ?_)
  refine bd3 <| aq Z <| bd4 <| af Z <| bd3 <| aj <| ag <| ai Z (.tmp Z .nil) (ac 1 [] Z Z) ?_
  rw [hr];exact ⟨rfl,rfl⟩
 refine af Z <| kr 0 Z Z Z Z Z Z (nf h32) Z ?_
 rw [hrv]
 refine bgj Z Z Z <| af Z ?_
 refine f0 28 Z (fun k2=> ?_) (fun k2=> ?_)
 ·rw [if_pos (.inr (.inl (by omega)))] at hr
  (iterate 13 refine af Z ?_)
  refine bd3 <| aq Z <| bd4 <| af Z <| bd3 <| aj <| ag <| ai Z (.tmp Z .nil) (ac 1 [] Z Z) ?_
  rw [hr];exact ⟨rfl,rfl⟩
 refine af Z <| kr 0 Z Z Z Z Z Z (nf h32) Z ?_
 rw [hrv]
 refine bh Z Z Z (a7f her hw.rf) ?_
 cases hri:aea e.refs with
 | false =>
  rw [if_pos (.inr (.inr (.inr hri)))] at hr
  (iterate 10 refine af Z ?_)
  refine bd3 <| aq Z <| bd4 <| af Z <| bd3 <| aj <| ag <| ai Z (.tmp Z .nil) (ac 1 [] Z Z) ?_
  rw [hr];exact ⟨rfl,rfl⟩
 | true =>
 refine bgj Z Z Z <| af Z <| kr 0 Z Z Z Z Z Z (nf h32) Z ?_
 rw [hrv]
 refine af Z <| dk 0 Z Z Z Z Z Z (xk h32) Z <| bh Z Z Z (a7g her hr32 h32) ?_
 by_cases k3:e.id∉e.refs
 ·rw [if_pos (.inr (.inr (.inl k3)))] at hr
  rw [decide_eq_false k3]
  refine bgi Z Z <| bd3 <| aq Z <| bd4 <| af Z <| bd3 <| aj <| ag <| ai Z (.tmp Z .nil) (ac 1 [] Z Z) ?_
  rw [hr];exact ⟨rfl,rfl⟩
 have k3':e.id∈e.refs:=Decidable.byContradiction k3
 rw [decide_eq_true k3']
 rw [if_neg (by
  rintro (h9 | h9 | h9 | h9)
  ·omega
  ·omega
  ·exact h9 k3'
  ·rw [hri] at h9;cases h9)] at hr
 refine bgi Z Z <| bd3 <| al Z <| ao <| aa <| ae <| bd4 <| af Z <| bd3 <| ar <| b6 (S:=Nat) (fun i=> [(1,.int .i64 w0),(2,.pointer (some ⟨g2,0,none⟩)),(5,.int .i64 (i:Int))]) (fun _=>pt g2 bo (evC e)::F) (fun i=>i≤e.refs.length∧∀ j (hj:j<e.refs.length),j<i→uq e.refs[j] w0=true) (fun i=>e.refs.length - i) 0 ⟨rfl,rfl,rfl,trivial⟩ (Ent.refl _) ⟨Nat.zero_le _,fun _ _ h=>absurd h (Nat.not_lt_zero _)⟩ ?_
 rintro i ⟨hi,hk⟩
 refine ae <| bd4 <| bgi Z Z <| kr 0 Z Z Z Z Z Z (nf h32) Z ?_
 rw [hrv]
 refine bgi Z Z <| bd3 ?_
 refine di Z (fun h=> ?_) (fun h=> ?_)
 ·have i1:i<e.refs.length:=by omega
  obtain ⟨gA,oA,rfl⟩:=h4 (by omega)
  have ca:=jt her hr32 i1
  have hmem:=List.getElem_mem i1
  have hx:=hr32 _ hmem
  have hnext:uq e.refs[i] w0=true→∀ j (hj:j<e.refs.length),j<i+1→uq e.refs[j] w0=true:=fun h j hj hlt=>by
   by_cases e9:j=i
   ·subst e9;exact h
   ·exact hk j hj (by omega)
  generalize e.refs[i]=x at *
  refine ao <| aa <| ae <| ar <| bd4 <| af Z <| kr 0 Z Z Z Z Z Z (nf h32) Z ?_
  rw [hrv]
  refine af Z <| b5 Z (by omega) ?_
  refine iu Z (fun w H=>cn (cs:=u8s x) Z Z Z (by rw [bg,hx];rfl) (fun j hj=>by rw [bi,Int.toNat_natCast];exact ca w H j (by rw [bg,hx] at hj;exact hj))) Z ?_
  refine af Z <| bh Z Z Z (aj5 hx) ?_
  cases hq:uq x w0 with
  | false =>
   rw [if_neg (fun h9=>by rw [List.all_eq_true.1 h9 x hmem] at hq;cases hq)] at hr
   refine af Z <| bd3 <| aq Z <| bd4 <| af Z <| bd3 <| aj <| ap <| ag <| da <| ap <| ag <| ai Z (.tmp Z .nil) (ac 1 [] Z Z) ?_
   rw [hr];exact ⟨rfl,rfl⟩
  | true =>
   refine af Z <| bd3 <| al Z <| ao <| ba <| aa <| ab <| af Z <| b5 Z (by (unfold I64;omega)) <| af Z <| ad ?_
   rw [show (i:Int)+1=((i+1:Nat):Int) by omega]
   exact bj (i+1) ⟨rfl,rfl,rfl,trivial⟩ (Ent.refl _) ⟨i1,hnext hq⟩ (by omega)
 ·rw [if_pos (List.all_eq_true.2 fun x hx=>by
   obtain ⟨k,hk2,rfl⟩:=List.mem_iff_getElem.1 hx
   exact hk k hk2 (by omega))] at hr
  refine bu <| av <| ax <| au <| aa <| bd4 <| af Z <| bd3 <| aj <| ai Z (.tmp Z .nil) (ac 1 [] Z Z) ?_
  rw [hr];exact ⟨rfl,rfl⟩
end

theorem a7h {t:ByteArray} (h:¬ t.size=0):(!decide (t.data = #[]))=true:=by
 rw [decide_eq_false (fun h2=>h (by show t.data.size=0;rw [h2];rfl))];rfl
theorem a7i {t:ByteArray} (h:t.size=0):(!decide (t.data = #[]))=false:=by
 rw [decide_eq_true (Array.eq_empty_of_size_eq_zero h)];rfl
section
variable {b:World} {F:List SP} {e:Ev}
set_option maxRecDepth 20000 in
set_option maxHeartbeats 8000000 in
theorem a0b {n w0:Int} (he:∀ w,Sat b F w→ER w e) (hw:EW e) (hl:EvL e):SC Tryz.prog aa8 [evV e,.int .i64 n,.int .i64 w0] b F (fun v F'=>v = .int .i64 (qt e n w0)∧F'=F):=by
 have h32:=hw.l32
 have d3:=hw.kind
 unfold I64 at d3
 have her:∀ g3 w,Sat b (pt g3 bo (evC e)::F) w→ER w e:=fun g3=>up he (ac 1 [] Z Z)
 refine bf Tryz.func101 Z Z Z <| bt (fun w H=>ava (he w H)) ?_
 rintro ⟨o1,o2⟩
 have xl:=cu h32
 have x1:=kj o1 o2
 refine bd4 <| cq Z Z Z Z Z fun g3=>af Z <| bd3 ?_
 generalize hK:decide (e.kind=3∨e.kind=4)=K
 refine wu (S:=Unit) (fun _=> [(1,.int .i64 n),(2,.int .i64 w0),(3,.pointer (some ⟨g3,0,none⟩)),(7,.bool K)]) (fun _=>pt g3 bo (evC e)::F) (fun _=>True) ?_ ?_
 ·refine ab <| af Z <| df 0 Z Z Z <| bgi Z Z ?_
  refine f0 11 Z (fun c=> ?_) (fun c=> ?_)
  ·rw [decide_eq_true (.inl c)] at hK
   subst hK
   (iterate 5 refine af Z ?_)
   refine ad ?_
   exact i9 () ⟨rfl,rfl,rfl,rfl,trivial⟩ (Ent.refl _) trivial
  ·refine af Z <| df 0 Z Z Z <| bgj Z Z Z <| ad <| i9 () ⟨rfl,rfl,rfl,?_,trivial⟩ (Ent.refl _) trivial
   rw [← hK]
   exact congrArg (fun q=>some (Value.bool q)) (decide_eq_decide.2 (by omega))
 rintro ⟨⟩ _
 refine ae <| ar <| bd4 <| bgj Z Z Z ?_
 refine f0 19 Z (fun k1=> ?_) (fun k19=> ?_)
 ·have hr:qt e n w0=3:=by unfold qt;rw [if_pos (by omega)]
  (iterate 12 refine af Z ?_)
  refine bd3 <| aq Z <| bd4 <| af Z <| bd3 <| aj <| ap <| ag <| ai Z (.tmp Z .nil) (ac 1 [] Z Z) ?_
  rw [hr];exact ⟨rfl,rfl⟩
 refine bgj Z Z Z <| af Z ?_
 refine f0 23 Z (fun k1=> ?_) (fun k23=> ?_)
 ·have hr:qt e n w0=3:=by unfold qt;rw [if_pos (by omega)]
  (iterate 8 refine af Z ?_)
  refine bd3 <| aq Z <| bd4 <| af Z <| bd3 <| aj <| ap <| ag <| ai Z (.tmp Z .nil) (ac 1 [] Z Z) ?_
  rw [hr];exact ⟨rfl,rfl⟩
 refine bgj Z Z Z <| af Z ?_
 refine f0 27 Z (fun k1=> ?_) (fun k27=> ?_)
 ·have hr:qt e n w0=3:=by unfold qt;rw [if_pos (by omega)]
  refine bgj Z Z Z <| af Z <| bd3 <| aq Z <| bd4 <| af Z <| bd3 <| aj <| ap <| ag <| ai Z (.tmp Z .nil) (ac 1 [] Z Z) ?_
  rw [hr];exact ⟨rfl,rfl⟩
 refine bgj Z Z Z <| af Z <| bd3 ?_
 refine di Z (fun k4=> ?_) (fun k4=> ?_)
 ·have hr:qt e n w0=3:=by unfold qt;rw [if_pos (by omega)]
  refine bd4 <| af Z <| bd3 <| aj <| ap <| ag <| ai Z (.tmp Z .nil) (ac 1 [] Z Z) ?_
  rw [hr];exact ⟨rfl,rfl⟩
 have hr:qt e n w0=if mq e n=false then 2 else if e.kind<1∨4<e.kind then 5 else if qd (ef e.repo)≠(0,0) then 7 else if vz e≠0 then vz e else if idE e w0≠0 then idE e w0 else ya e (decide (e.kind=1∨e.kind=3)) w0:=by
  unfold qt;rw [if_neg (by omega)]
 refine bd4 ?_
 refine dk 0 Z Z Z Z Z Z (fd (by rw [xl];rfl)) Z ?_
 refine af Z <| bh Z Z Z (aw5 (her g3) hw hl) ?_
 cases hp:mq e n with
 | false =>
  rw [if_pos hp] at hr
  refine bgi Z Z <| bd3 <| aq Z <| bd4 <| af Z <| bd3 <| aj <| ap <| ag <| ai Z (.tmp Z .nil) (ac 1 [] Z Z) ?_
  rw [hr];exact ⟨rfl,rfl⟩
 | true =>
 rw [if_neg (by rw [hp];simp)] at hr
 refine bgi Z Z <| bd3 <| al Z <| bd4 <| af Z <| df 0 Z Z Z <| bgi Z Z ?_
 refine f0 40 Z (fun k5=> ?_) (fun k5=> ?_)
 ·rw [if_pos (.inl k5)] at hr
  (iterate 5 refine af Z ?_)
  refine bd3 <| aq Z <| bd4 <| af Z <| bd3 <| aj <| ap <| ag <| ai Z (.tmp Z .nil) (ac 1 [] Z Z) ?_
  rw [hr];exact ⟨rfl,rfl⟩
 refine af Z <| df 0 Z Z Z <| bgj Z Z Z <| bd3 ?_
 refine di Z (fun k6=> ?_) (fun k6=> ?_)
 ·rw [if_pos (.inr k6)] at hr
  refine bd4 <| af Z <| bd3 <| aj <| ap <| ag <| ai Z (.tmp Z .nil) (ac 1 [] Z Z) ?_
  rw [hr];exact ⟨rfl,rfl⟩
 rw [if_neg (by omega)] at hr
 refine bd4 <| af Z <| df 0 Z Z Z <| bh Z Z Z (a29) <| af Z <| uc Z (abe Z Z (af3 (qd (ef e.repo)).1 (qd (ef e.repo)).2 0 0)) Z ?_
 by_cases k7:qd (ef e.repo)≠(0,0)
 ·rw [if_pos k7] at hr
  refine a9 50 (.bool true) Z (by rw [decide_eq_false (fun h=>k7 (Prod.ext h.1 h.2))];rfl) ?_
  (iterate 11 refine af Z ?_)
  refine bd3 <| aq Z <| bd4 <| af Z <| bd3 <| aj <| ap <| ag <| ai Z (.tmp Z .nil) (ac 1 [] Z Z) ?_
  rw [hr];exact ⟨rfl,rfl⟩
 rw [if_neg k7] at hr
 have k7':qd (ef e.repo)=(0,0):=Decidable.byContradiction k7
 refine a9 50 (.bool false) Z (by rw [decide_eq_true ⟨congrArg Prod.fst k7',congrArg Prod.snd k7'⟩];rfl) ?_
 cases K with
 | true =>
  have hK':=of_decide_eq_true hK
  refine bgj Z Z Z <| af Z <| df 0 Z Z Z <| bh Z Z Z (a7d) <| af Z <| uc Z (abe Z Z (af3 (zm (ef e.tag)).1 (zm (ef e.tag)).2 0 0)) Z ?_
  by_cases q1:zm (ef e.tag)=(0,0)
  rotate_left
  ·have ht:vz e=7:=by unfold vz;rw [if_pos hK',if_neg q1]
   rw [if_pos (by rw [ht];decide),ht] at hr
   refine a9 58 (.bool true) Z (by rw [decide_eq_false (fun h=>q1 (Prod.ext h.1 h.2))];rfl) ?_
   refine bgj Z Z Z <| bd3 <| aq Z <| bd4 <| af Z <| bd3 <| aj <| ap <| ag <| ai Z (.tmp Z .nil) (ac 1 [] Z Z) ?_
   rw [hr];exact ⟨rfl,rfl⟩
  have ht:vz e=0:=by unfold vz;rw [if_pos hK',if_pos q1]
  rw [if_neg (by rw [ht];simp)] at hr
  refine a9 58 (.bool false) Z (by rw [decide_eq_true ⟨congrArg Prod.fst q1,congrArg Prod.snd q1⟩];rfl) ?_
  refine bgj Z Z Z <| bd3 <| al Z <| bd4 ?_
  (iterate 8 refine af Z ?_)
  refine bd3 <| al Z <| bd4 <| af Z <| df 0 Z Z Z <| bgi Z Z ?_
  refine f0 73 Z (fun k8=> ?_) (fun k8=> ?_)
  ·refine af Z <| dk 0 Z Z Z Z Z Z (xk h32) Z <| af Z <| a9 76 (.agg ⟨u8s (List.replicate 32 0)⟩) Z Z <| uc Z (anl (as00:=e.id) (bs:=List.replicate 32 0) Z Z h32 Z) Z ?_
   by_cases k9:e.id=List.replicate 32 0
   ·have hid:idE e w0=0:=by unfold idE;rw [if_pos k8,if_pos k9]
    rw [if_neg (by rw [hid];simp)] at hr
    refine a9 77 (.bool false) Z (by rw [decide_eq_true k9];rfl) ?_
    refine bgj Z Z Z <| df 0 Z Z Z <| bgi Z Z ?_
    refine a9 83 (.bool false) Z (by rw [decide_eq_true k8];rfl) ?_
    (iterate 8 refine af Z ?_)
    refine bd3 <| al Z <| ao <| ba <| aa <| bd4 ?_
    refine dk 0 Z Z Z Z Z Z (fd (by rw [xl];rfl)) Z ?_
    refine af Z <| bh Z Z Z (aoq (her g3) hw hl) <| af Z <| bd3 <| aj <| ai Z (.tmp Z .nil) (ac 1 [] Z Z) ?_
    rw [hr];exact ⟨rfl,rfl⟩
   ·have hid:idE e w0=8:=by unfold idE;rw [if_pos k8,if_neg k9]
    rw [if_pos (by rw [hid];decide),hid] at hr
    refine a9 77 (.bool true) Z (by rw [decide_eq_false k9];rfl) ?_
    (iterate 14 refine af Z ?_)
    refine bd3 <| aq Z <| bd4 <| af Z <| bd3 <| aj <| ap <| ag <| ai Z (.tmp Z .nil) (ac 1 [] Z Z) ?_
    rw [hr];exact ⟨rfl,rfl⟩
  ·(iterate 7 refine af Z ?_)
   refine df 0 Z Z Z <| bgi Z Z ?_
   refine a9 83 (.bool true) Z (by rw [decide_eq_false k8];rfl) ?_
   refine af Z <| dk 0 Z Z Z Z Z Z (xk h32) Z <| af Z <| bh Z Z Z (aj5 h32) ?_
   cases hq:uq e.id w0 with
   | false =>
    have hid:idE e w0=8:=by unfold idE;rw [if_neg k8,if_neg (by rw [hq];simp)]
    rw [if_pos (by rw [hid];decide),hid] at hr
    refine bgj Z Z Z <| af Z <| bd3 <| aq Z <| bd4 <| af Z <| bd3 <| aj <| ap <| ag <| ai Z (.tmp Z .nil) (ac 1 [] Z Z) ?_
    rw [hr];exact ⟨rfl,rfl⟩
   | true =>
    have hid:idE e w0=0:=by unfold idE;rw [if_neg k8,if_pos hq]
    rw [if_neg (by rw [hid];simp)] at hr
    refine bgj Z Z Z <| af Z <| bd3 <| al Z <| ao <| ba <| aa <| bd4 ?_
    refine dk 0 Z Z Z Z Z Z (fd (by rw [xl];rfl)) Z ?_
    refine af Z <| bh Z Z Z (aoq (her g3) hw hl) <| af Z <| bd3 <| aj <| ai Z (.tmp Z .nil) (ac 1 [] Z Z) ?_
    rw [hr];exact ⟨rfl,rfl⟩
 | false =>
  have hK':=of_decide_eq_false hK
  have k8:¬ e.kind=4:=fun h=>hK' (.inr h)
  (iterate 11 refine af Z ?_)
  refine bd3 <| al Z <| bd4 <| bgj Z Z Z <| af Z <| df 0 Z Z Z <| bgj Z Z Z <| bd3 ?_
  by_cases q1:e.tag.size=0
  rotate_left
  ·have ht:vz e=2:=by unfold vz;rw [if_neg hK',if_neg q1]
   rw [if_pos (by rw [ht];decide),ht] at hr
   refine cm 61 (.bool true) Z (congrArg Value.bool (a7h q1)) <| aq Z <| bd4 <| af Z <| bd3 <| aj <| ap <| ag <| ai Z (.tmp Z .nil) (ac 1 [] Z Z) ?_
   rw [hr];exact ⟨rfl,rfl⟩
  have ht:vz e=0:=by unfold vz;rw [if_neg hK',if_pos q1]
  rw [if_neg (by rw [ht];simp)] at hr
  refine cm 61 (.bool false) Z (congrArg Value.bool (a7i q1)) <| al Z <| bd4 <| af Z <| df 0 Z Z Z <| bgi Z Z <| a9 73 (.bool false) Z (congrArg Value.bool (decide_eq_false k8)) ?_
  (iterate 7 refine af Z ?_)
  refine df 0 Z Z Z <| bgi Z Z ?_
  refine a9 83 (.bool true) Z (by rw [decide_eq_false k8];rfl) ?_
  refine af Z <| dk 0 Z Z Z Z Z Z (xk h32) Z <| af Z <| bh Z Z Z (aj5 h32) ?_
  cases hq:uq e.id w0 with
  | false =>
   have hid:idE e w0=8:=by unfold idE;rw [if_neg k8,if_neg (by rw [hq];simp)]
   rw [if_pos (by rw [hid];decide),hid] at hr
   refine bgj Z Z Z <| af Z <| bd3 <| aq Z <| bd4 <| af Z <| bd3 <| aj <| ap <| ag <| ai Z (.tmp Z .nil) (ac 1 [] Z Z) ?_
   rw [hr];exact ⟨rfl,rfl⟩
  | true =>
   have hid:idE e w0=0:=by unfold idE;rw [if_neg k8,if_pos hq]
   rw [if_neg (by rw [hid];simp)] at hr
   refine bgj Z Z Z <| af Z <| bd3 <| al Z <| ao <| ba <| aa <| bd4 ?_
   refine dk 0 Z Z Z Z Z Z (fd (by rw [xl];rfl)) Z ?_
   refine af Z <| bh Z Z Z (aoq (her g3) hw hl) <| af Z <| bd3 <| aj <| ai Z (.tmp Z .nil) (ac 1 [] Z Z) ?_
   rw [hr];exact ⟨rfl,rfl⟩
end
open Go.WideMaps

section
variable {b:World} {F:List SP} {e f:Ev}
set_option maxHeartbeats 2000000 in
theorem aw6 {va vb:Value} {l m:List (List Int)} (ha:∀ w,Sat b F w→SL w 32 va l.length (et l)) (hb:∀ w,Sat b F w→SL w 32 vb m.length (et m)) (hl:fw l) (hm:fw m):SC Tryz.prog su [va,vb] b F (fun v F'=>v = .bool (decide (l=m))∧F'=F):=by
 refine bf Tryz.func54 Z Z Z <| bt (fun w H=>du (ha w H)) ?_
 rintro ⟨A,c,rfl,h1,h2,h3,h4,_⟩
 refine bt (fun w H=>du (hb w H)) ?_
 rintro ⟨B,d,rfl,q1,q2,q3,q4,_⟩
 refine bd4 <| af Z <| a8r ?_
 (iterate 6 refine af Z ?_)
 refine bd3 <| ae <| bd4 <| af Z <| bd3 <| ar ?_
 refine b6 (S:=Nat × Bool) (fun s=> [(0,.slice A l.length c),(1,.slice B m.length d),(5,.bool s.2),(6,.int .i64 (s.1:Int))]) (fun _=>F) (fun s=>s.1≤l.length∧(s.2=true→l.length=m.length∧∀ k (hk:k<l.length) (hk2:k<m.length),k<s.1→l[k]=m[k])∧(s.2=false→l≠m)) (fun s=>l.length - s.1) (0,decide (l.length=m.length)) ⟨rfl,rfl,?_,rfl,trivial⟩ (Ent.refl _) ⟨Nat.zero_le _,fun h=>⟨by simpa using h,fun k _ _ hk=>absurd hk (Nat.not_lt_zero _)⟩,fun h hh=>by rw [hh] at h;simp at h⟩ ?_
 ·exact congrArg (fun q=>some (Value.bool q)) (decide_eq_decide.2 (by omega))
 rintro ⟨i,q⟩ ⟨hi,ht,hf⟩
 dsimp only at hi ht hf ⊢
 cases q with
 | false =>
  have hne:=hf Z
  refine ae <| bd4 ?_
  (iterate 7 refine af Z ?_)
  refine bd3 <| al Z <| bu <| av <| ax <| au <| aa <| bd4 <| bgi Z Z <| bd3 <| aj <| ai Z (.tmp Z .nil) (Ent.refl _) ?_
  exact ⟨congrArg Value.bool (decide_eq_false hne).symm,rfl⟩
 | true =>
 obtain ⟨hlm,hall⟩:=ht Z
 refine ae <| bd4 ?_
 (iterate 7 refine af Z ?_)
 refine bd3 ?_
 refine di Z (fun g1=> ?_) (fun g1=> ?_)
 ·have g1':i<l.length:=by omega
  have g2':i<m.length:=by omega
  obtain ⟨gA,oA,rfl⟩:=h4 (by omega)
  obtain ⟨gB,oB,rfl⟩:=q4 (by omega)
  have hx:=hl _ (List.getElem_mem g1')
  have hy:=hm _ (List.getElem_mem g2')
  have ca:∀ w,Sat b F w→∀ j,j<32→w.cell? ⟨gA,oA+i*32+j,none⟩=(u8s l[i])[j]?:=fun w H j hj=>lr (f:=u8s) (by rw [← oj];exact ha w H) (fun a h=>by rw [bg,hl a h]) g1' hj
  have cb:∀ w,Sat b F w→∀ j,j<32→w.cell? ⟨gB,oB+i*32+j,none⟩=(u8s m[i])[j]?:=fun w H j hj=>lr (f:=u8s) (by rw [← oj];exact hb w H) (fun a h=>by rw [bg,hm a h]) g2' hj
  have hex:l=m→l[i]=m[i]:=fun h=>by subst h;rfl
  have hstep:l[i]=m[i]→∀ k (hk:k<l.length) (hk2:k<m.length),k<i+1→l[k]=m[k]:=fun h k hk hk2 hki=>by
   by_cases e:k=i
   ·subst e;exact h
   ·exact hall k hk hk2 (by omega)
  generalize l[i]=x at *
  generalize m[i]=y at *
  refine ao <| aa <| ae <| ar <| b7 flo _ (by decide +kernel) (Ent.refl _) <| ay Z Zl <| ay Z Zl <| dj Z Z (by omega) ?_
  refine fu Z (fun w H=>cn (cs:=u8s x) Z Z Z (by rw [bg,hx];rfl) (fun j hj=>by rw [bi,Int.toNat_natCast];exact ca w H j (by rw [bg,hx] at hj;exact hj))) Z Z ?_
  refine ay Z Zl <| ay Z Zl <| dj Z Z (by omega) ?_
  refine fu Z (fun w H=>cn (cs:=u8s y) Z Z Z (by rw [bg,hy];rfl) (fun j hj=>by rw [bi,Int.toNat_natCast];exact cb w H j (by rw [bg,hy] at hj;exact hj))) Z Z ?_
  refine qz Z (yi (as00:=x) (bs:=y) Z Z hx hy) Z Z <| ay Z Zl <| az <| ba <| aa <| ab <| af Z <| b5 Z (by (unfold I64;omega)) <| af Z <| ad ?_
  refine bj (i+1,decide (x=y)) ⟨rfl,rfl,rfl,rfl,trivial⟩ (Ent.refl _) ⟨by dsimp only;omega,fun h=>⟨hlm,hstep (by simpa using h)⟩,fun h hh=> ?_⟩ (by dsimp only;omega)
  have h':x≠y:=by simpa using h
  exact h' (hex hh)
 ·refine bu <| av <| ax <| au <| aa <| bd4 <| bgi Z Z <| bd3 <| aj <| ai Z (.tmp Z .nil) (Ent.refl _) <| ⟨congrArg Value.bool (decide_eq_true ?_).symm,rfl⟩
  exact List.ext_getElem hlm fun k hk hk2=>hall k hk hk2 (by omega)
end
end Go.Proofs.YtdmfcnjgdicncaaGreat
