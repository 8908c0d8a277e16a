/- Events as bytes: the program's Encode. Conditions: numbers of 64 bits; not too many. -/
import Derived.Test.YtbpdffopjkhelaaGreatX7
import Derived.Test.YtbpdffopjkhelaaGreatX5
import Derived.Test.YtbpdffopjkhelaaGreatX0
import Derived.Test.YtbpdffopjkhelaaGreatX3
import Derived.Test.YtbpdffopjkhelaaGreatX6
set_option maxRecDepth 20000
set_option maxHeartbeats 8000000
namespace Go.Proofs.YtbpdffopjkhelaaGreat
open Go Go.Eng Go.RowKit

theorem gF {x:Int} (h:(Lit.int .i64 x).wf=true):I64 x:=(jA x).1 h
structure EvL (e:Ev):Prop where
 dn:e.deps.length≤1000000
 rn:e.refs.length≤1000000
 ps:e.repo.size≤1000000
 ts:e.tag.size≤1000000
section
variable {b:World} {F:List SP} {e:Ev}
end

instance:EqT Tryz.prog t_api_Fault:=⟨by kernel_rfl⟩
set_option maxRecDepth 100000 in
theorem mq (a b c d:Int) (w:World):(Op.equalIn 10000 t_api_Fault (ftV (a,b)) (ftV (c,d))).run Tryz.prog w = .ok (decide (a=c∧b=d)) w:=by
 have hS:Tryz.prog.underlying t_api_Fault=some (.struct (Tryz.prog.fieldsOf t_api_Fault)):=by kernel_rfl
 have hp:Tryz.prog.stoodInHeld t_api_Fault=false:=by kernel_rfl
 have hf : ∃ f g : Field, (Tryz.prog.fieldsOf t_api_Fault).toList = [f, g] ∧ f.name ≠ "_" ∧ g.name ≠ "_" ∧ f.type = wa ∧ g.type = fd ∧ f.offset = 0 ∧ g.offset = 1 :=
  ⟨_,_,rfl,by decide,by decide,rfl,rfl,rfl,rfl⟩
 obtain ⟨f,g,h1,h2,h3,h4,h5,h6,h7⟩:=hf;have ui:Tryz.prog.underlying fd=some (.int .i64):=by kernel_rfl
 have ue:Tryz.prog.underlying wa=some (.int .i64):=by kernel_rfl
 rw [show (10000:Nat)=9998+1+1 from rfl,run_equalIn_struct w 9999 t_api_Fault _ _ hS hp,h1];have p0:∀ (x y:Int),(part wa #[ii x,ii y] 0).run Tryz.prog w = .ok (ii x) w:=fun x y=>by simp [part,isAgg,run_underlying ue]
 have p1:∀ (x y:Int),(part fd #[ii x,ii y] 1).run Tryz.prog w = .ok (ii y) w:=fun x y=>by simp [part,isAgg,run_underlying ui]
 have q:∀ x y:Int,(Op.equalIn 9999 fd (ii x) (ii y)).run Tryz.prog w = .ok (x == y) w:=fun x y=>run_equalIn_int w 9998 fd .i64 .i64 x y ui
 have q0:∀ x y:Int,(Op.equalIn 9999 wa (ii x) (ii y)).run Tryz.prog w = .ok (x == y) w:=fun x y=>run_equalIn_int w 9998 wa .i64 .i64 x y ue
 simp only [Op.eqFields,h2,h3,h4,h5,h6,h7,ne_eq,not_false_eq_true,aq6,Sem.run_bind,p0,p1,q,q0,Result.andThen_ok];by_cases e1:a=c <;> by_cases e2:b=d <;> simp [e1,e2,p1,q]
theorem Jh {F G:List SP} {v:Value} {n:Nat} {cs:List Value} {l:List (List Int)} (k:Nat) (hk:nth F k=some (row t_api_ID 32 v n cs)) (hl:n=l.length) (hc:cs=ig l) (hG:jl F k (rD v l)=some G):Ent F G:=by
 subst hl;subst hc;exact q7 k hk (fun _ h=>h) hG
section
variable {b:World} {F:List SP} {B:List Int}
end

section
variable {b:World} {F:List SP} {e:Ev}
theorem wj {gA oA c:Nat} {l:List (List Int)} (h:∀ w,Sat b F w→SL w 32 (.slice (some ⟨gA,oA,none⟩) l.length c) l.length (ig l)) (hl:fT l) {i:Nat} (hi:i<l.length):∀ w,Sat b F w→∀ j,j<32→w.cell? ⟨gA,oA+i*32+j,none⟩=(u8s l[i])[j]? :=
 fun w H j hj=>fb (f:=u8s) (by rw [← re];exact h w H) (fun a h=>by rw [dr,hl a h]) hi hj
theorem Hg {x:Int}:SC Tryz.prog oG [ii x] b F (fun v F'=>v = .bool (!okNum x)∧F'=F):=by
 refine aw Tryz.func193 Z Z Z <| akw <| ae Z <| aan <| am5 Z Z Z ?_;refine np 5 Z (fun h=> ?_) (fun h=> ?_)
 ·refine am5 Z Z Z <| ae Z <| akv <| ai <| ar Z Z ax ?_;exact ⟨am7 Value.bool (by simp only [okNum];rw [ans (show ¬ 0≤x by omega)];rfl),rfl⟩
 ·refine am5 Z Z Z <| ae Z <| akv <| ai <| ar Z Z ax ?_;exact ⟨am7 Value.bool (by simp only [okNum];rw [ani (show 0≤x by omega),arj,apw];simp),rfl⟩
theorem Ly {n:Int} (he:∀ w,Sat b F w→ER w e) (hd:lm (e.r,e.n)) (hl:e.deps.length≤1000000):SC Tryz.prog sP [evV e,ii n] b F (fun v F'=>v = .bool (tm e n)∧F'=F):=by
 have d1:=gF hd.1;have d2:=gF hd.2;unfold I64 at d1 d2;dsimp only at d1 d2;refine aw Tryz.func114 Z Z Z <| bu (fun w H=>(he w H).dv.form) ?_;rintro ⟨A,c,hdv,h1,h2,h3,h4⟩;refine akw <| bx Z Z Z Z Z fun g2=>ae Z <| aan <| ae Z <| bt 0 Z Z Z <| db Z Z Z Z Z fun g5=>eu 0 Z Z Z Z <| akv <| ad <| akw <| ae Z <| bt 0 Z Z Z <| am4 Z Z ?_
 by_cases k1:e.r<1
 ·refine se 11 Z k1 ?_
  (iterate 22 refine ae Z ?_)
  refine akv <| ao Z <| akw <| ae Z <| akv <| ai <| ag <| ar Z Z (af 2 [] Z) ?_;exact ⟨am7 Value.bool (by unfold tm;rw [ans (by omega)];rfl),rfl⟩
 refine sq 11 Z k1 <| ae Z <| bt 0 Z Z Z <| am5 Z Z Z <| ae Z ?_;by_cases k2:n<e.r
 ·refine se 17 Z k2 ?_
  (iterate 16 refine ae Z ?_)
  refine akv <| ao Z <| akw <| ae Z <| akv <| ai <| ag <| ar Z Z (af 2 [] Z) ?_;exact ⟨am7 Value.bool (by unfold tm;rw [ans (by omega)];rfl),rfl⟩
 refine sq 17 Z k2 <| ae Z <| bt 0 Z Z Z <| am5 Z Z Z ?_;by_cases k3:e.n<1
 ·refine se 22 Z k3 ?_
  (iterate 11 refine ae Z ?_)
  refine akv <| ao Z <| akw <| ae Z <| akv <| ai <| ag <| ar Z Z (af 2 [] Z) ?_;exact ⟨am7 Value.bool (by unfold tm;rw [ans (by omega)];rfl),rfl⟩
 refine sq 22 Z k3 <| ae Z <| bt 0 Z Z Z <| am5 Z Z Z ?_;by_cases k4:1048576<e.n
 ·refine se 27 Z k4 ?_
  (iterate 6 refine ae Z ?_)
  refine akv <| ao Z <| akw <| ae Z <| akv <| ai <| ag <| ar Z Z (af 2 [] Z) ?_;exact ⟨am7 Value.bool (by unfold tm;rw [ans (by omega)];rfl),rfl⟩
 refine sq 27 Z k4 ?_;have her:∀ w,Sat b (pt g5 t_api_Dot [ii e.r,ii e.n]::pt g2 ba (evC e)::F) w→VL (Value.int .i64) w (.slice A e.deps.length c) e.deps:=fun w H=>by rw [← hdv];exact (he w (H.ent (af 2 [] Z))).dv
 refine ae Z <| bt 1 Z Z Z ?_;rw [hdv];refine am5 Z Z Z <| ae Z <| akv ?_;refine cH Z (fun k5=> ?_) (fun k5=> ?_)
 ·refine akw <| ae Z <| akv <| ai <| ag <| ar Z Z (af 2 [] Z) ?_;exact ⟨am7 Value.bool (by unfold tm;rw [ans (by omega)];rfl),rfl⟩
 have k0:decide (1≤e.r∧e.r≤n∧1≤e.n∧e.n≤1048576∧(e.deps.length:Int)=n)=true:=ani (by omega);obtain ⟨bk,off,rfl⟩:=h4 (by omega);refine ak <| ab <| ad <| cn flo _ (by decide +kernel) ax <| ay Z Zl <| cl 1 Z Z Z Z ?_;rw [hdv];refine dh Z Z Z Z ((He (fun _ _=>Hg) her (by omega))) ax ?_;have hany:(!e.deps.any fun x=> !okNum x)=e.deps.all okNum:=by
  rw [apw];simp [aqx,an4]
 refine ay Z Zl <| ay Z Zl <| cz 38 (.bool (e.deps.all okNum)) Z (am7 Value.bool hany) ?_;cases hall:e.deps.all okNum with
 | false =>
  (iterate 13 refine ay Z Zl ?_)
  refine aq <| ab <| ai <| ar Z Z (af 2 [] Z) ?_;exact ⟨am7 Value.bool (by unfold tm;rw [hall];simp),rfl⟩
 | true =>
  have hi:(e.r - 1).toNat<e.deps.length:=by omega
  have hg:e.deps[(e.r - 1).toNat]?.getD 0=e.deps[(e.r - 1).toNat]:=by rw [am8 hi];rfl
  refine ay Z Zl <| cl 1 Z Z Z Z <| ay Z Zl <| cl 0 Z Z Z Z <| cq Z Z ?_;rw [hdv];refine cq Z Z ?_;refine ij Z (fun w H=>br Z Z Z (by rw [bq];simpa using VL.at (her w H) (e.r - 1).toNat hi)) Z Z ?_;refine ay Z Zl <| cl 0 Z Z Z Z <| cq Z Z <| ay Z Zl <| ay Z Zl <| ay Z Zl <| aq <| ab <| ai <| ar Z Z (af 2 [] Z) ?_;exact ⟨am7 Value.bool (by unfold tm;rw [hall,k0,hg];simp),rfl⟩
theorem Lz {va:Value} {l:List (List Int)} {x:List Int} (ha:∀ w,Sat b F w→SL w 32 va l.length (ig l)) (hl:fT l) (hx:x.length=32) (hm:l.length≤1000000) :
  SC Tryz.prog t8 [va,idV x] b F (fun v F'=>(∃ i:Int,v=ii i∧decide (0≤i)=decide (x∈l))∧F'=F):=by
 refine aw Tryz.func109 Z Z Z <| bu (fun w H=>cp (ha w H)) ?_;rintro ⟨A,c,rfl,h1,h2,h3,h4,_⟩;refine akw <| bx Z Z Z Z Z fun g3=>ae Z <| akv <| ad <| akw <| am5 Z Z Z <| akv <| am ?_
 refine dt (S:=Nat) (fun i=> [(0,.slice A l.length c),(3,pp g3),(7,ii l.length),(8,ii i)]) (fun _=>pt g3 t_api_ID (u8s x)::F) (fun i=>i≤l.length∧x∉l.take i) (fun i=>l.length - i) 0 ax ⟨anq _,by simp⟩ ?_;rintro i ⟨hi,hk⟩;refine akw <| ae Z <| akv <| ad ?_;refine de Z (fun h=> ?_) (fun h=> ?_)
 ·have h':i<l.length:=by omega
  obtain ⟨gA,oA,rfl⟩:=h4 (by omega);have ca:=wj ha hl h';have hy:=hl _ (ana h');have hmem:=ana h';have htk:=ang h';generalize l[i]=y at ca hy hmem htk;refine ak <| ab <| ad <| am <| akw <| am4 Z Z <| akv <| ad <| cn flo _ (by decide +kernel) ax <| js 0 Z Z Z Z Z Z (ll hx) Z Z <| ay Z Zl <| ay Z Zl <| cq Z Z ?_;refine ij Z (fun w H=>cg (cs:=u8s y) Z Z Z (by rw [dr,hy];rfl) (fun j hj=>by rw [bq,am6];exact ca w (H.ent (af 1 [] Z)) j (by rw [dr,hy] at hj;exact hj))) Z Z ?_;refine dM Z (nT (as00:=x) (bs:=y) Z Z hx hy) Z Z ?_;by_cases hxy:x=y
  ·refine yn 16 Z hxy <| aq <| ab <| ao Z <| akw <| am4 Z Z <| akv <| ai <| al <| ag <| cd <| al <| ag <| ar Z Z (af 1 [] Z) ?_;exact ⟨⟨i,rfl,by rw [ani (by omega),ani (by rw [hxy];exact hmem)]⟩,rfl⟩
  ·refine vr 16 Z hxy <| aq <| ab <| aj Z <| ak <| bh <| ab <| aa <| az Z <| ae Z <| ac <| cw (i+1) ax ⟨h',?_⟩;rw [htk];simp [hk,hxy]
 ·refine bz <| au <| av <| ap <| ab <| akw <| ae Z <| akv <| ai <| ar Z Z (af 1 [] Z) <| ⟨⟨-1,rfl,?_⟩,rfl⟩;rw [an1 (by omega)] at hk;rw [ans hk];rfl
theorem mR {va:Value} {l:List (List Int)} {x:List Int} (ha:∀ w,Sat b F w→SL w 32 va l.length (ig l)) (hl:fT l) (hx:x.length=32) (hm:l.length≤1000000) :
  SC Tryz.prog ru [va,idV x] b F (fun v F'=>v = .bool (decide (x∈l))∧F'=F):=by
 refine aw Tryz.func35 Z Z Z <| akw <| bx Z Z Z Z Z fun g3=>ae Z <| aan <| ae Z <| du 0 Z Z Z Z Z Z (ll hx) Z <| bf Z Z Z (Lz (up ha (af 1 [] Z)) hl hx hm) ?_
 rintro _ _ ⟨⟨i,rfl,hi⟩,rfl⟩;refine am4 Z Z <| akv <| ai <| ar Z Z (af 1 [] Z) ?_;exact ⟨am7 Value.bool hi,rfl⟩
theorem T6 {x:List Int} {w0:Int} {g5:Nat} (hx:x.length=32):SC Tryz.prog fC [idV x,pp g5] b (pt g5 fd [ii w0]::F) (fun v F'=>v = .bool (!fR x w0)∧F'=pt g5 fd [ii w0]::F):=by
 refine aw Tryz.func198 Z Z Z <| akw <| bx Z Z Z Z Z fun g2=>ae Z <| aan <| du 0 Z Z Z Z Z Z (ll hx) Z <| bt 1 Z Z Z <| bg Z Z Z (Wp hx) <| am4 Z Z <| akv <| ai <| ar Z Z (af 1 [] Z) ?_
 exact ⟨rfl,rfl⟩
abbrev Hh (g5:Nat):Value:= .func (.func fC) ⟨[]⟩ ⟨[pp g5]⟩
theorem T7 {va:Value} {l:List (List Int)} {w0:Int} {g5:Nat} (ha:∀ w,Sat b (pt g5 fd [ii w0]::F) w→SL w 32 va l.length (ig l)) (hl:fT l) (hm:l.length≤1000000) :
  SC Tryz.prog qs [va,Hh g5] b (pt g5 fd [ii w0]::F) (fun v F'=>(∃ i:Int,v=ii i∧decide (0≤i) = !(l.all fun x=>fR x w0))∧F'=pt g5 fd [ii w0]::F):=by
 refine aw Tryz.func113 Z Z Z <| bu (fun w H=>cp (ha w H)) ?_;rintro ⟨A,c,rfl,h1,h2,h3,h4,_⟩;refine akw <| ae Z <| akv <| ad <| akw <| am5 Z Z Z <| akv <| am <| dt (S:=Nat) (fun i=> [(0,.slice A l.length c),(1,Hh g5),(7,ii l.length),(8,ii i)]) (fun _=>pt g5 fd [ii w0]::F) (fun i=>i≤l.length∧((l.take i).all fun x=>fR x w0)=true) (fun i=>l.length - i) 0 ax ⟨anq _,rfl⟩ ?_;rintro i ⟨hi,hk⟩;refine akw <| ae Z <| akv <| ad ?_;refine de Z (fun h=> ?_) (fun h=> ?_)
 ·have h':i<l.length:=by omega
  obtain ⟨gA,oA,rfl⟩:=h4 (by omega);have ca:=wj ha hl h';have hy:=hl _ (ana h');have hmem:=ana h';have htk:=ang h';generalize l[i]=y at ca hy hmem htk;refine ak <| ab <| ad <| am <| akw <| am4 Z Z <| aan <| am5 Z Z Z <| az Z ?_;refine fc Z (fun w H=>cg (cs:=u8s y) Z Z Z (by rw [dr,hy];rfl) (fun j hj=>by rw [bq,am6];exact ca w H j (by rw [dr,hy] at hj;exact hj))) Z ?_;refine bg Z Z Z (T6 hy) ?_;cases hh:fR y w0 with
  | false =>
   refine akv <| ao Z <| akw <| am4 Z Z <| akv <| ai <| al <| ag <| cd <| al <| ag <| ar Z Z ax <| ⟨⟨i,rfl,?_⟩,rfl⟩;rw [ani (by omega),eq_comm];cases hall:l.all fun x=>fR x w0 with
   | false => rfl
   | true => have := an4.1 hall y hmem; rw [hh] at this; cases this
  | true =>
   refine akv <| aj Z <| ak <| bh <| ab <| aa <| az Z <| ae Z <| ac <| cw (i+1) ax ⟨h',?_⟩;rw [htk,List.all_append,hk];simp [hh]
 ·refine bz <| au <| av <| ap <| ab <| akw <| ae Z <| akv <| ai <| ar Z Z ax <| ⟨⟨-1,rfl,?_⟩,rfl⟩;rw [an1 (by omega)] at hk;rw [hk];rfl
theorem T8 {va:Value} {l:List (List Int)} {w0:Int} {g5:Nat} (ha:∀ w,Sat b (pt g5 fd [ii w0]::F) w→SL w 32 va l.length (ig l)) (hl:fT l) (hm:l.length≤1000000) :
  SC Tryz.prog p5 [va,Hh g5] b (pt g5 fd [ii w0]::F) (fun v F'=>v = .bool (!(l.all fun x=>fR x w0))∧F'=pt g5 fd [ii w0]::F):=by
 refine aw Tryz.func39 Z Z Z <| akw <| ae Z <| aan <| am4 Z Z <| bf Z Z Z (T7 ha hl hm) ?_;rintro _ _ ⟨⟨i,rfl,hi⟩,rfl⟩;refine am4 Z Z <| akv <| ai <| ar Z Z ax ?_;exact ⟨am7 Value.bool hi,rfl⟩
end

abbrev fnV (f:Nat):Value:= .func (.func f) ⟨[]⟩ ⟨[]⟩
def Hi:List Value:= [fnV qv,fnV mw,.bool true,fnV qv,fnV mw,.bool false,fnV p6,fnV mw,.bool true,fnV p6,fnV cS,.bool false]
theorem Hj {l:List (List Int)} (h:∀ i,i+1<l.length→pn (l[i]?.getD []) (l[i+1]?.getD [])<0):mN l=true:=by
 unfold mN;rw [an4];intro i hi;have:=aoa.1 hi;exact ani (h i (by omega))
theorem D5 {l:List (List Int)} {i:Nat} (hi:i+1<l.length) (h:¬ pn (l[i]?.getD []) (l[i+1]?.getD [])<0):mN l=false:=by
 cases hr:mN l with
 | false => rfl
 | true =>
  unfold mN at hr;have:=an4.1 hr i (aoa.2 (by omega));exact absurd (of_decide_eq_true this) h
section
variable {b:World} {F:List SP} {e:Ev}
theorem D6 {s:ByteArray}:SC Tryz.prog qv [.string s] b F (fun v F'=>v=ii (if s.size=0 then 0 else 2)∧F'=F):=by
 refine aw Tryz.func194 Z Z Z <| akw <| ae Z <| akv <| ad <| akw <| am4 Z Z <| akv ?_;refine cH Z (fun h1=> ?_) (fun h1=> ?_)
 ·have hz:s.size≠0:=fun h0=>h1 (by first | exact Array.eq_empty_of_size_eq_zero h0 | exact ari (Array.eq_empty_of_size_eq_zero h0))
  refine akw <| ae Z <| akv <| ai <| ag <| ar Z Z ax ?_;rw [if_neg hz];exact ⟨rfl,rfl⟩
 ·have hz:s.size=0:=by show s.data.size=0;rw [h1];rfl
  refine ak <| ab <| akw <| ae Z <| akv <| ai <| ar Z Z ax ?_;rw [if_pos hz];exact ⟨rfl,rfl⟩
theorem xY {s:ByteArray}:SC Tryz.prog p6 [.string s] b F (fun v F'=>v=ii (if po (fe s)=(0,0) then 0 else 7)∧F'=F):=by
 refine aw Tryz.func196 Z Z Z <| akw <| ae Z <| akv <| ad <| akw <| ae Z <| bg Z Z Z (I7) <| ae Z <| nq Z (sj Z Z (mq (po (fe s)).1 (po (fe s)).2 0 0)) Z ?_;by_cases h:po (fe s)=(0,0)
 ·rw [if_pos h,h];refine akv <| aj Z <| ak <| ab <| akw <| ae Z <| akv <| ai <| ar Z Z ax ?_;exact ⟨rfl,rfl⟩
 ·rw [if_neg h];refine bm 6 (.bool true) Z (by
   have:¬ ((po (fe s)).1=0∧(po (fe s)).2=0):=fun hc=>h (aqq hc.1 hc.2)
   rw [ans this];rfl) ?_
  refine akv <| ao Z <| akw <| ae Z <| akv <| ai <| ag <| ar Z Z ax ?_;exact ⟨rfl,rfl⟩
theorem uD {x:List Int} {w:Int} (hx:x.length=32):SC Tryz.prog mw [idV x,ii w] b F (fun v F'=>v=ii (if fR x w=true then 0 else 8)∧F'=F):=by
 refine aw Tryz.func195 Z Z Z <| akw <| bx Z Z Z Z Z fun g2=>ae Z <| akv <| ad <| akw <| du 0 Z Z Z Z Z Z (ll hx) Z <| ae Z <| bg Z Z Z (Wp hx) <| ae Z <| akv ?_
 cases h:fR x w with
 | true =>
  refine aj Z <| ak <| ab <| akw <| ae Z <| akv <| ai <| ar Z Z (af 1 [] Z) ?_;exact ⟨rfl,rfl⟩
 | false =>
  refine ao Z <| akw <| ae Z <| akv <| ai <| ag <| ar Z Z (af 1 [] Z) ?_;exact ⟨rfl,rfl⟩
theorem T9 {x:List Int} {w:Int} (hx:x.length=32):SC Tryz.prog cS [idV x,ii w] b F (fun v F'=>v=ii (if x=List.replicate 32 0 then 0 else 8)∧F'=F):=by
 refine aw Tryz.func197 Z Z Z <| akw <| bx Z Z Z Z Z fun g2=>ae Z <| akv <| ad <| akw <| du 0 Z Z Z Z Z Z (ll hx) Z <| ae Z <| bm 6 (idV (List.replicate 32 0)) Z Z <| nq Z (F5 (as00:=x) (bs:=List.replicate 32 0) Z Z hx Z) Z ?_
 by_cases h:x=List.replicate 32 0
 ·rw [if_pos h];refine bm 7 (.bool false) Z (by rw [ani h];rfl) ?_;refine akv <| aj Z <| ak <| ab <| akw <| ae Z <| akv <| ai <| ar Z Z (af 1 [] Z) ?_;exact ⟨rfl,rfl⟩
 ·rw [if_neg h];refine bm 7 (.bool true) Z (by rw [ans h];rfl) ?_;refine akv <| ao Z <| akw <| ae Z <| akv <| ai <| ag <| ar Z Z (af 1 [] Z) ?_;exact ⟨rfl,rfl⟩
theorem Ji:SC Tryz.prog vS [] b F (fun v F'=>v = .agg ⟨Hi⟩∧F'=F):=by
 refine aw Tryz.func115 Z Z Z <| akw <| db Z Z Z Z Z fun g0=>aan ?_
 (iterate 5 refine ae Z ?_)
 refine eu 0 Z Z Z Z <| akv <| ai <| fw Z (.agg 0 Z Z Z Z Z .nil) (af 1 [] Z) ?_;exact ⟨rfl,rfl⟩
theorem Ua {asked:Bool} {w0:Int} (he:∀ w,Sat b F w→ER w e) (hw:EW e) (hl:EvL e):SC Tryz.prog zL [evV e,.bool asked,ii w0] b F (fun v F'=>v=ii (jI e asked w0)∧F'=F):=by
 have h32:=hw.l32;have hr32:=hw.r32;have hrn:=hl.rn;refine aw Tryz.func116 Z Z Z <| bu (fun w H=>cp (he w H).rv) ?_;rintro ⟨A,c,hrv,h1,h2,h3,h4,_⟩;refine akw <| bx Z Z Z Z Z fun g3=> ?_
 skip
 refine bx Z Z Z Z Z fun g5=>ae Z <| aan <| ae Z <| yk 1 Z Z Z Z Z Z (aF h32) Z ?_
 have her:∀ w,Sat b (pt g5 fd [ii w0]::pt g3 ba (evC e)::F) w→SL w 32 (.slice A e.refs.length c) e.refs.length (ig e.refs):=fun w H=>by rw [← hrv];exact (he w (H.ent (af 2 [] Z))).rv
 rw [hrv];refine ae Z <| akv <| ad <| akw <| am4 Z Z <| akv ?_;cases asked with
 | false =>
  refine ao Z <| ad <| akw <| am5 Z Z Z <| akv ?_;refine de Z (fun h=> ?_) (fun h=> ?_)
  ·refine akw <| ae Z <| akv <| ai <| ag <| ag <| ar Z Z (af 2 [] Z) ?_;unfold jI;rw [if_pos rfl,if_neg (by omega)];exact ⟨rfl,rfl⟩
  ·refine ak <| ab <| akw <| ae Z <| akv <| ai <| ag <| ar Z Z (af 2 [] Z) ?_;unfold jI;rw [if_pos rfl,if_pos (by omega)];exact ⟨rfl,rfl⟩
 | true =>
  have hr:jI e true w0=if e.refs.length=0∨256<e.refs.length∨e.id∉e.refs∨mN e.refs=false then 2 else if (e.refs.all fun x=>fR x w0)=true then 0 else 8:=by unfold jI;rw [if_neg (by simp)]
  refine aj Z <| ak <| ab <| ad <| akw <| am5 Z Z Z <| ae Z ?_;refine np 19 Z (fun k1=> ?_) (fun k1=> ?_)
  ·rw [if_pos (.inl (by omega))] at hr
   (iterate 11 refine ae Z ?_)
   refine akv <| ao Z <| akw <| ae Z <| akv <| ai <| ag <| ar Z Z (af 2 [] Z) ?_;rw [hr];exact ⟨rfl,rfl⟩
  (iterate 5 refine ae Z ?_)
  refine np 24 Z (fun k2=> ?_) (fun k2=> ?_)
  ·rw [if_pos (.inr (.inl (by omega)))] at hr
   (iterate 6 refine ae Z ?_)
   refine akv <| ao Z <| akw <| ae Z <| akv <| ai <| ag <| ar Z Z (af 2 [] Z) ?_;rw [hr];exact ⟨rfl,rfl⟩
  refine am4 Z Z <| du 1 Z Z Z Z Z Z (fU h32) Z <| bg Z Z Z (mR her hr32 h32 hrn) <| am4 Z Z <| akv ?_;by_cases k3:e.id∉e.refs
  ·rw [if_pos (.inr (.inr (.inl k3)))] at hr;rw [ans k3];refine ao Z <| akw <| ae Z <| akv <| ai <| ag <| ar Z Z (af 2 [] Z) ?_;rw [hr];exact ⟨rfl,rfl⟩
  have k3':e.id∈e.refs:=apn k3;rw [ani k3'];obtain ⟨gA,oA,rfl⟩:=h4 (by omega);refine aj Z <| ak <| ab <| ad <| akw <| ae Z <| az Z <| am4 Z Z <| akv <| am <| dt (S:=Nat) (fun i=> [(7,.slice (some ⟨gA,oA,none⟩) e.refs.length c),(5,pp g5),(33,ii ((e.refs.length - 1:Nat):Int)),(34,ii i)]) (fun _=>pt g5 fd [ii w0]::pt g3 ba (evC e)::F) (fun i=>i≤e.refs.length - 1∧∀ j,j<i→pn (e.refs[j]?.getD []) (e.refs[j+1]?.getD [])<0) (fun i=>e.refs.length - 1 - i) 0 ax ⟨anq _,fun j hj=>absurd hj (aqi j)⟩ ?_;rintro i ⟨hi,hk⟩;refine akw <| ae Z <| akv <| ad ?_;refine de Z (fun h=> ?_) (fun h=> ?_)
  ·have i1:i<e.refs.length:=by omega
   have i2:i+1<e.refs.length:=by omega
   have ca:=wj her hr32 i1;have cb:=wj her hr32 i2;have hx:=hr32 _ (ana i1);have hy:=hr32 _ (ana i2);have ex:e.refs[i]?.getD []=e.refs[i]:=by rw [am8 i1];rfl
   have ey:e.refs[i+1]?.getD []=e.refs[i+1]:=by rw [am8 i2];rfl
   have hsucc:((i:Int)+1).toNat=i+1:=by omega
   generalize e.refs[i]=x at ca hx ex;generalize e.refs[i+1]=y at cb hy ey;refine ak <| ab <| ad <| am <| akw <| am4 Z Z <| akv <| ad <| cn flo _ (by decide +kernel) ax <| ay Z Zl <| ay Z Zl <| cq Z Z ?_;refine ij Z (fun w H=>cg (cs:=u8s x) Z Z Z (by rw [dr,hx];rfl) (fun j hj=>by rw [bq,am6];exact ca w H j (by rw [dr,hx] at hj;exact hj))) Z Z ?_;refine ay Z Zl <| ay Z Zl <| cq Z Z <| cq Z Z ?_;refine ij Z (fun w H=>cg (cs:=u8s y) Z Z Z (by rw [dr,hy];rfl) (fun j hj=>by rw [bq,hsucc];exact cb w H j (by rw [dr,hy] at hj;exact hj))) Z Z ?_;refine dh Z Z Z Z ((oP hx hy)) ax <| ay Z Zl <| aq <| ab ?_;refine de Z (fun h5=> ?_) (fun h5=> ?_)
   ·rw [if_pos (.inr (.inr (.inr (D5 i2 (by rw [ex,ey];omega)))))] at hr;refine akw <| ae Z <| akv <| ai <| al <| ag <| cd <| al <| ag <| ar Z Z (af 2 [] Z) ?_;rw [hr];exact ⟨rfl,rfl⟩
   ·refine ak <| bh <| ab <| aa <| az Z <| ae Z <| ac ?_;rw [show (i:Int)+1=((i+1:Nat):Int) by omega];refine cw (i+1) ax ⟨by omega,fun j hj=> ?_⟩;by_cases e9:j=i
    ·subst e9;rw [ex,ey];omega
    ·exact hk j (by omega)
  have hrise:=Hj (l:=e.refs) fun j hj=>hk j (by omega)
  rw [if_neg (by
   rintro (h9 | h9 | h9 | h9)
   ·omega
   ·omega
   ·exact h9 k3'
   ·rw [hrise] at h9;cases h9)] at hr
  refine bz <| au <| av <| ap <| ab <| ad <| akw <| am4 Z Z <| bg Z Z Z (T8 her hr32 hrn) <| akv ?_;cases hall:e.refs.all fun x=>fR x w0 with
  | true =>
   rw [hall] at hr;refine aj Z <| ak <| ab <| akw <| ae Z <| akv <| ai <| ar Z Z (af 2 [] Z) ?_;rw [hr];exact ⟨rfl,rfl⟩
  | false =>
   rw [hall] at hr;refine ao Z <| akw <| ae Z <| akv <| ai <| ag <| ar Z Z (af 2 [] Z) ?_;rw [hr];exact ⟨rfl,rfl⟩
end

section
variable {b:World} {F:List SP} {e:Ev}
theorem amx (b:World) (h32:e.id.length=32) (hk:1≤e.kind∧e.kind≤4) (w:Int):∃ ft fi:Nat,Bodied Tryz.prog ft∧Bodied Tryz.prog fi∧((Hi.drop ((e.kind - 1).toNat*3)).take 3 = [fnV ft,fnV fi,.bool (decide (e.kind=1∨e.kind=3))]) ∧
  (∀ G,SC Tryz.prog ft [.string e.tag] b G (fun v F'=>v=ii (mO e)∧F'=G))∧(∀ G,SC Tryz.prog fi [idV e.id,ii w] b G (fun v F'=>v=ii (idE e w)∧F'=G)):=by
 have:e.kind=1∨e.kind=2∨e.kind=3∨e.kind=4:=by omega
 rcases this with h | h | h | h
 ·refine ⟨qv,mw,inferInstance,inferInstance,by rw [h];rfl,fun G=> ?_,fun G=> ?_⟩
  ·have e1:mO e=if e.tag.size=0 then 0 else 2:=by unfold mO;rw [if_neg (by omega)]
   rw [e1];exact D6
  ·have e1:idE e w=if fR e.id w=true then 0 else 8:=by unfold idE;rw [if_neg (by omega)]
   rw [e1];exact uD h32
 ·refine ⟨qv,mw,inferInstance,inferInstance,by rw [h];rfl,fun G=> ?_,fun G=> ?_⟩
  ·have e1:mO e=if e.tag.size=0 then 0 else 2:=by unfold mO;rw [if_neg (by omega)]
   rw [e1];exact D6
  ·have e1:idE e w=if fR e.id w=true then 0 else 8:=by unfold idE;rw [if_neg (by omega)]
   rw [e1];exact uD h32
 ·refine ⟨p6,mw,inferInstance,inferInstance,by rw [h];rfl,fun G=> ?_,fun G=> ?_⟩
  ·have e1:mO e=if po (fe e.tag)=(0,0) then 0 else 7:=by unfold mO;rw [if_pos (by omega)]
   rw [e1];exact xY
  ·have e1:idE e w=if fR e.id w=true then 0 else 8:=by unfold idE;rw [if_neg (by omega)]
   rw [e1];exact uD h32
 ·refine ⟨p6,cS,inferInstance,inferInstance,by rw [h];rfl,fun G=> ?_,fun G=> ?_⟩
  ·have e1:mO e=if po (fe e.tag)=(0,0) then 0 else 7:=by unfold mO;rw [if_pos (by omega)]
   rw [e1];exact xY
  ·have e1:idE e w=if e.id=List.replicate 32 0 then 0 else 8:=by unfold idE;rw [if_pos h]
   rw [e1];exact T9 h32
theorem Ub {n w0:Int} (he:∀ w,Sat b F w→ER w e) (hw:EW e) (hl:EvL e):SC Tryz.prog vO [evV e,ii n,ii w0] b F (fun v F'=>v=ii (dA e n w0)∧F'=F):=by
 have h32:=hw.l32;have d3:=hw.kind;unfold I64 at d3;have her:∀ g3 w,Sat b (pt g3 ba (evC e)::F) w→ER w e:=fun g3=>up he (af 1 [] Z)
 refine aw Tryz.func42 Z Z Z <| bu (fun w H=>vg (he w H)) ?_;rintro ⟨o1,o2⟩;have xl:=di h32;have x1:=kp o1 o2;refine akw <| bx Z Z Z Z Z fun g3=>ae Z <| akv <| ad <| am <| akw <| am5 Z Z Z ?_
 by_cases k1:n<1
 ·have hr:dA e n w0=3:=by unfold dA;rw [if_pos (by omega)]
  refine se 13 Z k1 ?_
  (iterate 12 refine ae Z ?_)
  refine akv <| ao Z <| akw <| ae Z <| akv <| ai <| al <| ag <| ar Z Z (af 1 [] Z) ?_;rw [hr];exact ⟨rfl,rfl⟩
 refine sq 13 Z k1 <| am5 Z Z Z <| ae Z ?_;by_cases k2:16<n
 ·have hr:dA e n w0=3:=by unfold dA;rw [if_pos (by omega)]
  refine se 17 Z k2 ?_
  (iterate 8 refine ae Z ?_)
  refine akv <| ao Z <| akw <| ae Z <| akv <| ai <| al <| ag <| ar Z Z (af 1 [] Z) ?_;rw [hr];exact ⟨rfl,rfl⟩
 refine sq 17 Z k2 <| am5 Z Z Z <| ae Z ?_;by_cases k3:w0<1
 ·have hr:dA e n w0=3:=by unfold dA;rw [if_pos (by omega)]
  refine se 21 Z k3 <| am5 Z Z Z <| ae Z <| akv <| ao Z <| akw <| ae Z <| akv <| ai <| al <| ag <| ar Z Z (af 1 [] Z) ?_;rw [hr];exact ⟨rfl,rfl⟩
 refine sq 21 Z k3 <| am5 Z Z Z <| ae Z <| akv ?_;refine de Z (fun k4=> ?_) (fun k4=> ?_)
 ·have hr:dA e n w0=3:=by unfold dA;rw [if_pos (by omega)]
  refine akw <| ae Z <| akv <| ai <| al <| ag <| ar Z Z (af 1 [] Z) ?_;rw [hr];exact ⟨rfl,rfl⟩
 have hr:dA e n w0=if tm e n=false then 2 else if e.kind<1∨4<e.kind then 5 else if mo (fe e.repo)≠(0,0) then 7 else if mO e≠0 then mO e else if idE e w0≠0 then idE e w0 else jI e (decide (e.kind=1∨e.kind=3)) w0:=by
  unfold dA;rw [if_neg (by omega)]
 refine akw ?_;refine du 0 Z Z Z Z Z Z (dj (by rw [xl];rfl)) Z ?_;refine ae Z <| bg Z Z Z (Ly (her g3) hw.dot hl.dn) <| am4 Z Z <| akv ?_;cases hp:tm e n with
 | false =>
  rw [if_pos hp] at hr;refine ao Z <| akw <| ae Z <| akv <| ai <| al <| ag <| ar Z Z (af 1 [] Z) ?_;rw [hr];exact ⟨rfl,rfl⟩
 | true =>
  rw [if_neg (by rw [hp];simp)] at hr;refine aj Z <| akw <| ae Z <| bt 0 Z Z Z <| am4 Z Z ?_;by_cases k5:e.kind<1
  ·rw [if_pos (.inl k5)] at hr;refine se 34 Z k5 ?_
   (iterate 5 refine ae Z ?_)
   refine akv <| ao Z <| akw <| ae Z <| akv <| ai <| al <| ag <| ar Z Z (af 1 [] Z) ?_;rw [hr];exact ⟨rfl,rfl⟩
  refine sq 34 Z k5 <| ae Z <| bt 0 Z Z Z <| am5 Z Z Z <| akv ?_;refine de Z (fun k6=> ?_) (fun k6=> ?_)
  ·rw [if_pos (.inr k6)] at hr;refine akw <| ae Z <| akv <| ai <| al <| ag <| ar Z Z (af 1 [] Z) ?_;rw [hr];exact ⟨rfl,rfl⟩
  rw [if_neg (by omega)] at hr;refine akw <| ae Z <| bt 0 Z Z Z <| bg Z Z Z (Af) <| ae Z <| nq Z (sj Z Z (mq (mo (fe e.repo)).1 (mo (fe e.repo)).2 0 0)) Z ?_;by_cases k7:mo (fe e.repo)≠(0,0)
  ·rw [if_pos k7] at hr;refine bm 44 (.bool true) Z (by
    have:¬ ((mo (fe e.repo)).1=0∧(mo (fe e.repo)).2=0):=fun hc=>k7 (aqq hc.1 hc.2)
    rw [ans this];rfl) ?_
   refine ae Z <| akv <| ao Z <| akw <| ae Z <| akv <| ai <| al <| ag <| ar Z Z (af 1 [] Z) ?_;rw [hr];exact ⟨rfl,rfl⟩
  rw [if_neg k7] at hr;have k7':mo (fe e.repo)=(0,0):=apn k7;refine bm 44 (.bool false) Z (by rw [k7'];rfl) ?_;obtain ⟨ft,fi,_,_,hway,hft,hfi⟩:=amx b h32 (by omega:1≤e.kind∧e.kind≤4) w0;refine ae Z <| akv <| aj Z <| ak <| bh <| ab <| ad ?_;refine w9 flo 7 (pt g3 ba (evC e)::F) (by kernel_rfl) Z ax ?_;refine q8 (T:=Nat) 5 [1,2,3,4,6] (fun g7=> [(2,ii w0),(3,pp g3),(7,pp g7),(45,.agg ⟨Hi⟩)]) (fun g7=>pt g7 mC [.nilFunc,.nilFunc,.bool false]::pt g3 ba (evC e)::F) (fun _=>True) ?_ (fun J=> ?_);rotate_left
  ·refine pg (0,[]) [(5,[])] (by kernel_rfl) ⟨jf _ Z ax ?_,jf _ Z ax ?_,trivial⟩
   ·refine dh Z Z Z Z Ji ax ?_;refine aq (io ax (nu 5 0 (by kernel_rfl) Z ?_));refine jt Z Z Z Z Z Z ax fun g7=>aq <| io (af 1 [] Z) ?_
    exact J g7 _ _ _ trivial (by kernel_rfl) ⟨rfl,rfl,rfl,rfl,trivial⟩ ax
   ·refine jt Z Z Z Z Z Z ax fun g7=> ?_;refine aq (io (af 1 [] Z) (nu 0 0 (by kernel_rfl) Z ?_));refine dh Z Z Z Z Ji (af 1 [] Z) <| aq <| io (af 1 [] Z) ?_;exact J g7 _ _ _ trivial (by kernel_rfl) ⟨rfl,rfl,rfl,rfl,trivial⟩ ax
  intro g7 _;refine pg (6,[1,2,3,4]) [] (by kernel_rfl) ⟨jm 1 4 (L2:= []) Z Z ?_,trivial⟩;refine ay Z Zl <| cl 0 Z Z Z Z <| cq Z Z ?_;refine dM Z (Yf Z Z Z Z Z ⟨by omega,by show _<(4:Int);omega⟩ hway) Z Z ?_;refine aq <| s0 (af 1 [] Z) <| jf _ Z ax ?_;refine aE 0 Z Z Z Z Z Z Z Z Z (by simp [Value.oneCell']) Z (af 1 [] Z) ?_;refine aq (io (af 1 [] Z) (yq 0 0 (by kernel_rfl) (by kernel_rfl) Z (aq ?_)));have her7:∀ w,Sat b (pt g7 mC [fnV ft,fnV fi,.bool (decide (e.kind=1∨e.kind=3))]::pt g3 ba (evC e)::F) w→ER w e:=up he (af 2 [] Z);refine ab <| ad <| ad <| cn flo _ (by decide +kernel) ax <| ay Z Zl <| cl 0 Z Z Z Z <| ay Z Zl <| cl 1 Z Z Z Z <| dh Z Z Z Z ((hft _)) ax <| ay Z Zl <| cl 0 Z Z Z Z <| ay Z Zl <| js 1 Z Z Z Z Z Z (fU h32) Z Z <| ay Z Zl <| dh Z Z Z Z ((hfi _)) ax ?_;refine js 1 Z Z Z Z Z Z (dj (by rw [xl];rfl)) Z Z ?_;refine ay Z Zl <| cl 0 Z Z Z Z <| ay Z Zl <| dh Z Z Z Z ((Ua her7 hw hl)) ax ?_;generalize jI e (decide (e.kind=1∨e.kind=3)) w0=x3 at hr ⊢;generalize mO e=x1' at hr ⊢;generalize idE e w0=x2 at hr ⊢;refine ay Z Zl <| ay Z Zl <| aq <| ab <| am ?_;refine dt (S:=Nat) (fun i=> [(66,.agg ⟨[ii x1',ii x2,ii x3]⟩),(67,ii i)]) (fun _=>F) (fun i=>i≤3∧(1≤i→x1'=0)∧(2≤i→x2=0)∧(3≤i→x3=0)) (fun i=>3 - i) 0 (af 2 [] Z) ⟨by omega,by omega,by omega,by omega⟩ ?_;rintro i ⟨hi,j1,j2,j3⟩;refine akw <| ae Z <| akv <| ad ?_;refine de Z (fun h=> ?_) (fun h=> ?_)
  ·have h3:i=0∨i=1∨i=2:=by omega
   rcases h3 with rfl | rfl | rfl
   ·refine ak <| ab <| ad <| am <| akw ?_;refine Ko Z (by (simp;done)) ?_;refine ae Z <| aan <| am4 Z Z <| akv ?_;refine cH Z (fun h5=> ?_) (fun h5=> ?_)
    ·rw [if_pos h5] at hr;refine akw <| am4 Z Z <| akv <| ai <| al <| ag <| cd <| al <| ag <| ar Z Z ax ?_;rw [hr];exact ⟨rfl,rfl⟩
    ·refine ak <| bh <| ab <| aa <| az Z <| ae Z <| ac ?_;exact cw 1 ax ⟨by omega,fun _=>h5,by omega,by omega⟩
   ·have:=j1 (by omega);refine ak <| ab <| ad <| am <| akw ?_;refine Ko Z (by (simp;done)) ?_;refine ae Z <| aan <| am4 Z Z <| akv ?_;refine cH Z (fun h5=> ?_) (fun h5=> ?_)
    ·rw [if_neg (by omega),if_pos h5] at hr;refine akw <| am4 Z Z <| akv <| ai <| al <| ag <| cd <| al <| ag <| ar Z Z ax ?_;rw [hr];exact ⟨rfl,rfl⟩
    ·refine ak <| bh <| ab <| aa <| az Z <| ae Z <| ac ?_;exact cw 2 ax ⟨by omega,fun _=>this,fun _=>h5,by omega⟩
   ·have t1:=j1 (by omega);have t2:=j2 (by omega);rw [if_neg (by omega),if_neg (by omega)] at hr;refine ak <| ab <| ad <| am <| akw ?_;refine Ko Z (by (simp;done)) ?_;refine ae Z <| aan <| am4 Z Z <| akv ?_;refine cH Z (fun h5=> ?_) (fun h5=> ?_)
    ·refine akw <| am4 Z Z <| akv <| ai <| al <| ag <| cd <| al <| ag <| ar Z Z ax ?_;rw [hr];exact ⟨rfl,rfl⟩
    ·refine ak <| bh <| ab <| aa <| az Z <| ae Z <| ac ?_;exact cw 3 ax ⟨by omega,fun _=>t1,fun _=>t2,fun _=>h5⟩
  ·obtain rfl:i=3:=by omega
   rw [if_neg (by rw [j1 (by omega)];simp),if_neg (by rw [j2 (by omega)];simp),j3 (by omega)] at hr;refine bz <| au <| av <| ap <| ab <| akw <| ae Z <| akv <| ai <| ar Z Z ax ?_;rw [hr];exact ⟨rfl,rfl⟩
theorem uE {r n:Int} {v:Value} {xs:List Int} (h:∀ w,Sat b F w→VL (Value.int .i64) w v xs):SC Tryz.prog lS [v,nh r n] b F (fun u F'=>u = .bool (fq xs r n)∧F'=F) :=
 SC.ofExt fun w H=>xh (h w H)
end

section
variable {b:World} {F:List SP}
end

section
variable {b:World} {F:List SP} {e:Ev}
end

section
variable {b:World} {F:List SP} {e:Ev}
end

section
variable {b:World} {F:List SP} {e:Ev}
end

section
variable {b:World} {F:List SP} {e:Ev}
end
open Go.WideMaps

section
variable {b:World} {F:List SP} {e f:Ev}
end
end Go.Proofs.YtbpdffopjkhelaaGreat
